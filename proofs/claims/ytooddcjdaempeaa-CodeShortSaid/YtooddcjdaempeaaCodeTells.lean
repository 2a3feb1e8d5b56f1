/- Numbers and places as numbers that can be held against each other, and back; what is less is less. -/
import Derived.Test.YtooddcjdaempeaaCodeA
set_option linter.unusedSimpArgs false
set_option linter.unusedVariables false
set_option maxHeartbeats 4000000
set_option maxRecDepth 100000
namespace Go.Proofs.Ytooddcjdaempeaa
open Go.Ev
theorem rd_u64 {cs : List AV} (h : RD (.int .u64) cs) : ∃ n, cs = [.int .u64 n] ∧ inU n := by
  obtain ⟨n, h1, h2, h3⟩ := h
  refine ⟨n, h1, ?_⟩
  simp only [IntKind.min, IntKind.max, IntKind.signed, IntKind.bits] at h2 h3
  exact ⟨by simpa using h2, by simpa using h3⟩
theorem rd_u32 {cs : List AV} (h : RD (.int .u32) cs) : ∃ n, cs = [.int .u32 n] ∧ inU32 n := by
  obtain ⟨n, h1, h2, h3⟩ := h
  refine ⟨n, h1, ?_⟩
  simp only [IntKind.min, IntKind.max, IntKind.signed, IntKind.bits] at h2 h3
  exact ⟨by simpa using h2, by simpa using h3⟩
def gN : GT := .arr 4 (.int .u8)
theorem rd_n {cs : List AV} (h : RD gN cs) : ∃ a b c d, cs = [.int .u8 a, .int .u8 b, .int .u8 c, .int .u8 d] ∧ byte a ∧ byte b ∧ byte c ∧ byte d := by
  obtain ⟨L, hL, rfl, hx⟩ := h
  match L, hL, hx with
  | [l1, l2, l3, l4], _, hx =>
    obtain ⟨a, rfl, ha⟩ := rd_u8 (hx l1 (by simp))
    obtain ⟨b, rfl, hb⟩ := rd_u8 (hx l2 (by simp))
    obtain ⟨c, rfl, hc⟩ := rd_u8 (hx l3 (by simp))
    obtain ⟨d, rfl, hd⟩ := rd_u8 (hx l4 (by simp))
    exact ⟨a, b, c, d, rfl, ha, hb, hc, hd⟩
def gAsk : GT := .pair (.int .i64) (.pair (.int .u64) (.pair (.int .u32) (.pair gN .unit)))
theorem rdarg_ask {x : AV} (h : RDarg gAsk x) : ∃ v u k a b c d, x = .agg [.int .i64 v, .int .u64 u, .int .u32 k, .int .u8 a, .int .u8 b, .int .u8 c, .int .u8 d] ∧ inI v ∧ inU u ∧ inU32 k ∧ byte a ∧ byte b ∧ byte c ∧ byte d := by
  simp only [RDarg, gAsk, isAggG, if_true] at h
  obtain ⟨cs, rfl, v, r, rfl, hv, u, r, rfl, hu, k, r, rfl, hk, c, r, rfl, hc, rfl⟩ := h
  obtain ⟨v, rfl, hv'⟩ := rd_i64 hv
  obtain ⟨u, rfl, hu'⟩ := rd_u64 hu
  obtain ⟨k, rfl, hk'⟩ := rd_u32 hk
  obtain ⟨a, b, c, d, rfl, ha, hb, hc', hd⟩ := rd_n hc
  exact ⟨v, u, k, a, b, c, d, rfl, hv', hu', hk', ha, hb, hc', hd⟩
theorem codeTells_ev (v u k a b c d : Int) (hv : inI v) (hu : inU u) (hk : inU32 k) (ha : byte a) (hb : byte b) (hc : byte c) (hd : byte d) :
    cvF tab 7 [.agg [.int .i64 v, .int .u64 u, .int .u32 k, .int .u8 a, .int .u8 b, .int .u8 c, .int .u8 d]] = some (.bool true) := by
  refine cvFA_R (mf := Mf.f7) rfl rfl (by kernel_rfl) ?_
  simp [Mf.f7, beqI, bneI, mm_min2, mm_max2, mm_min3, mm_max3, startE, lkE, lkX, lkE_rest, sx, substE, opVA, objs0, List.replicate, XA_seq, XA_region, XOA_go, goE_someA, opV, ev, putA, layAll, XOA_nil, XA_skip_seq, XA_skip_nil, XOA_gd, goG_tA, goG_uA, binV, bi_add, bi_sub, bi_mul, bi_quo, bi_rem, bi_eql, bi_neq, bi_lss, bi_leq, bi_gtr, bi_geq, bi_shl, bi_shr, bi_and, bi_or, bi_xor, unV, XA_ret_nil, XA_ret_cons, endFA_r, endFA_n, endTA_r, endTA_n, endRA_r, endRA_n, fltR, resultsA, resAs, resA, XA_block, XA_cond, pickX_t, pickX_f, pickX_b, XA_skip_blk, XA_skip_lp, XA_exit_seq, XA_exit_lp, XA_exit_blk, XA_exit_nil, load1, Ev.loadCells, objCells, bodyCells, setCells, AV.flat, AV.flat1, backR, backV, backCell, mapO, AV.cells, AV.atom, AV.tree, fillV, repeatL, treeCell, freezeAll, eqCells, callV_T, callV_F, passV, passCell, srcCells, sliceBounds, hiB, loB, thenQ_nA, thenQ_xA, thenQ_rA, runK_nA, runK_xA, runK_rA, wrap_i64, wrap_u64, wrap_u32, wrap_u8, wrap_u16, flip_ev v hv, rflip_ev v hv, back_ev u hu, rback_ev u hu, zig_ev v hv, rzig_ev v hv, zag_ev u hu, rzag_ev u hu, key_ev a b c d ha hb hc hd, rkey_ev a b c d ha hb hc hd, at_ev k hk, rat_ev k hk, wakes_ev]
theorem codeTells_law (l : List AV) (h : RDargs [gAsk] l) : ∃ H1, cfT tab 7 l [] = some (.bool true, H1) := by
  obtain ⟨x, r, rfl, hx, rfl⟩ := h
  obtain ⟨v, u, k, a, b, c, d, rfl, hv, hu, hk, ha, hb, hc, hd⟩ := rdarg_ask hx
  exact cvF_bool (codeTells_ev v u k a b c d hv hu hk ha hb hc hd)
theorem codeTells_lifted (os : Os) (started : os.Started) (H : Type) (enc : TypeId × Value → H) :
    ReturnsInHanded {} Try.checked os 7 .any (Rows.codeTellsSpec.pre6 enc Try.prog Try.f7 Rows.codeTellsRow.domain false) (Rows.codeTellsSpec.post enc Try.prog Try.f7 false true false false) := by
  refine returnsInHanded_of_change (C := Try.checked) Try.own started (by kernel_rfl) Try.func7
    (ChangeSpec.witness6 (enc := enc) (C := Try.checked) false ⟨#[], #[.agg #[.int .i64 0, .int .u64 0, .int .u32 0, .int .u8 0, .int .u8 0, .int .u8 0, .int .u8 0]], []⟩ 8 (by kernel_rfl) (by kernel_rfl) (by kernel_rfl) (by kernel_rfl)) ?_
  intro W base args ds gs before hval hW hcnd _
  have hval' : ∀ (j : Nat) (t : TypeId) (v : Value), Try.f7.params.toList[j]? = some t → args[j]? = some v → Value.okWide Try.prog W .any base t v := fun j t v h1 h2 => hval j t v (by simpa using h1) h2
  obtain ⟨p, q, hA, hV, hpq, _, _⟩ := id hW
  have hg : gtsB Try.prog [gAsk] Try.f7.params.toList = true := by kernel_rfl
  refine (law_calls' tab_ok hg codeTells_law hval' hA).mono fun e W' ⟨he, hb⟩ => ?_
  subst he
  refine ⟨_, rfl, post_true Try.laidOut (rt := 4) (fun ds h => ?_) rfl (by kernel_rfl) (by kernel_rfl) (by kernel_rfl) hW hb⟩
  match ds, h with
  | [_], _ => rfl
theorem codeTells_holds : Rows.CodeTellsSaid :=
  OpenClaim.holds_of_wide 7 Try.f7 rfl rfl rfl rfl rfl rfl rfl ⟨rfl, rfl, rfl, rfl, rfl⟩ rfl rfl rfl rfl rfl (by kernel_rfl) Try.func7 (by kernel_rfl)
    (of_decide_eq_true (by kernel_rfl)) (by unfold Func.isWrapper; first | (rw [if_pos (by decide +kernel)]; kernel_rfl) | (rw [if_neg (by decide +kernel)]; exact ⟨rfl, rfl⟩))
    (fun os started H enc _ => codeTells_lifted os started H enc)
def gP : GT := .arr 2 gN
theorem codeOrder_ev (x y a0 a1 a2 a3 b0 b1 b2 b3 : Int) (hx : inI x) (hy : inI y) (ha0 : byte a0) (ha1 : byte a1) (ha2 : byte a2) (ha3 : byte a3) (hb0 : byte b0) (hb1 : byte b1) (hb2 : byte b2) (hb3 : byte b3) :
    cvF tab 3 [.int .i64 x, .int .i64 y, .agg [.int .u8 a0, .int .u8 a1, .int .u8 a2, .int .u8 a3, .int .u8 b0, .int .u8 b1, .int .u8 b2, .int .u8 b3]] = some (.bool true) := by
  have e1 := key_ev a0 a1 a2 a3 ha0 ha1 ha2 ha3
  have e2 := key_ev b0 b1 b2 b3 hb0 hb1 hb2 hb3
  have f1 := flip_ev x hx
  have f2 := flip_ev y hy
  have hfl : decide (x + 9223372036854775808 < y + 9223372036854775808) = decide (x < y) := by
    by_cases c : x < y
    · simp [c]
    · simp [c]
  unfold byte at *
  refine cvFA_R (mf := Mf.f3) rfl rfl (by kernel_rfl) ?_
  simp only [Mf.f3]
  by_cases c0 : a0 = b0
  · by_cases c1 : a1 = b1
    · by_cases c2 : a2 = b2
      · by_cases c3 : a3 = b3
        · have hk : ¬ key4 a0 a1 a2 a3 < key4 b0 b1 b2 b3 := by unfold key4; omega
          simp [beqI, bneI, mm_min2, mm_max2, mm_min3, mm_max3, startE, lkE, lkX, lkE_rest, sx, substE, opVA, objs0, List.replicate, XA_seq, XA_region, XOA_go, goE_someA, opV, ev, putA, layAll, XOA_nil, XA_skip_seq, XA_skip_nil, XOA_gd, goG_tA, goG_uA, binV, bi_add, bi_sub, bi_mul, bi_quo, bi_rem, bi_eql, bi_neq, bi_lss, bi_leq, bi_gtr, bi_geq, bi_shl, bi_shr, bi_and, bi_or, bi_xor, unV, XA_ret_nil, XA_ret_cons, endFA_r, endFA_n, endTA_r, endTA_n, endRA_r, endRA_n, fltR, resultsA, resAs, resA, XA_block, XA_cond, pickX_t, pickX_f, pickX_b, XA_skip_blk, XA_skip_lp, XA_exit_seq, XA_exit_lp, XA_exit_blk, XA_exit_nil, load1, Ev.loadCells, objCells, bodyCells, setCells, AV.flat, AV.flat1, backR, backV, backCell, mapO, AV.cells, AV.atom, AV.tree, fillV, repeatL, treeCell, freezeAll, eqCells, callV_T, callV_F, passV, passCell, srcCells, sliceBounds, hiB, loB, thenQ_nA, thenQ_xA, thenQ_rA, runK_nA, runK_xA, runK_rA, wrap_i64, wrap_u64, wrap_u32, wrap_u8, wrap_u16, XA_round, normA, lkE, fixObjs, fixBody, fixV, fixCell, goN_someA, c0, c1, c2, c3, e1, e2, f1, f2, hfl, hk, wakes_ev] at hk e1 ⊢
        · have hk : decide (key4 a0 a1 a2 a3 < key4 b0 b1 b2 b3) = decide (a3 < b3) := by
            unfold key4
            by_cases c : a3 < b3
            · rw [decide_eq_true c, decide_eq_true]; omega
            · rw [decide_eq_false c, decide_eq_false]; omega
          subst c0 c1 c2
          simp [beqI, bneI, mm_min2, mm_max2, mm_min3, mm_max3, startE, lkE, lkX, lkE_rest, sx, substE, opVA, objs0, List.replicate, XA_seq, XA_region, XOA_go, goE_someA, opV, ev, putA, layAll, XOA_nil, XA_skip_seq, XA_skip_nil, XOA_gd, goG_tA, goG_uA, binV, bi_add, bi_sub, bi_mul, bi_quo, bi_rem, bi_eql, bi_neq, bi_lss, bi_leq, bi_gtr, bi_geq, bi_shl, bi_shr, bi_and, bi_or, bi_xor, unV, XA_ret_nil, XA_ret_cons, endFA_r, endFA_n, endTA_r, endTA_n, endRA_r, endRA_n, fltR, resultsA, resAs, resA, XA_block, XA_cond, pickX_t, pickX_f, pickX_b, XA_skip_blk, XA_skip_lp, XA_exit_seq, XA_exit_lp, XA_exit_blk, XA_exit_nil, load1, Ev.loadCells, objCells, bodyCells, setCells, AV.flat, AV.flat1, backR, backV, backCell, mapO, AV.cells, AV.atom, AV.tree, fillV, repeatL, treeCell, freezeAll, eqCells, callV_T, callV_F, passV, passCell, srcCells, sliceBounds, hiB, loB, thenQ_nA, thenQ_xA, thenQ_rA, runK_nA, runK_xA, runK_rA, wrap_i64, wrap_u64, wrap_u32, wrap_u8, wrap_u16, XA_round, normA, lkE, fixObjs, fixBody, fixV, fixCell, goN_someA, c3, e1, e2, f1, f2, hfl, hk, wakes_ev]
      · have hk : decide (key4 a0 a1 a2 a3 < key4 b0 b1 b2 b3) = decide (a2 < b2) := by
          unfold key4
          by_cases c : a2 < b2
          · rw [decide_eq_true c, decide_eq_true]; omega
          · rw [decide_eq_false c, decide_eq_false]; omega
        subst c0 c1
        simp [beqI, bneI, mm_min2, mm_max2, mm_min3, mm_max3, startE, lkE, lkX, lkE_rest, sx, substE, opVA, objs0, List.replicate, XA_seq, XA_region, XOA_go, goE_someA, opV, ev, putA, layAll, XOA_nil, XA_skip_seq, XA_skip_nil, XOA_gd, goG_tA, goG_uA, binV, bi_add, bi_sub, bi_mul, bi_quo, bi_rem, bi_eql, bi_neq, bi_lss, bi_leq, bi_gtr, bi_geq, bi_shl, bi_shr, bi_and, bi_or, bi_xor, unV, XA_ret_nil, XA_ret_cons, endFA_r, endFA_n, endTA_r, endTA_n, endRA_r, endRA_n, fltR, resultsA, resAs, resA, XA_block, XA_cond, pickX_t, pickX_f, pickX_b, XA_skip_blk, XA_skip_lp, XA_exit_seq, XA_exit_lp, XA_exit_blk, XA_exit_nil, load1, Ev.loadCells, objCells, bodyCells, setCells, AV.flat, AV.flat1, backR, backV, backCell, mapO, AV.cells, AV.atom, AV.tree, fillV, repeatL, treeCell, freezeAll, eqCells, callV_T, callV_F, passV, passCell, srcCells, sliceBounds, hiB, loB, thenQ_nA, thenQ_xA, thenQ_rA, runK_nA, runK_xA, runK_rA, wrap_i64, wrap_u64, wrap_u32, wrap_u8, wrap_u16, XA_round, normA, lkE, fixObjs, fixBody, fixV, fixCell, goN_someA, c2, e1, e2, f1, f2, hfl, hk, wakes_ev]
    · have hk : decide (key4 a0 a1 a2 a3 < key4 b0 b1 b2 b3) = decide (a1 < b1) := by
        unfold key4
        by_cases c : a1 < b1
        · rw [decide_eq_true c, decide_eq_true]; omega
        · rw [decide_eq_false c, decide_eq_false]; omega
      subst c0
      simp [beqI, bneI, mm_min2, mm_max2, mm_min3, mm_max3, startE, lkE, lkX, lkE_rest, sx, substE, opVA, objs0, List.replicate, XA_seq, XA_region, XOA_go, goE_someA, opV, ev, putA, layAll, XOA_nil, XA_skip_seq, XA_skip_nil, XOA_gd, goG_tA, goG_uA, binV, bi_add, bi_sub, bi_mul, bi_quo, bi_rem, bi_eql, bi_neq, bi_lss, bi_leq, bi_gtr, bi_geq, bi_shl, bi_shr, bi_and, bi_or, bi_xor, unV, XA_ret_nil, XA_ret_cons, endFA_r, endFA_n, endTA_r, endTA_n, endRA_r, endRA_n, fltR, resultsA, resAs, resA, XA_block, XA_cond, pickX_t, pickX_f, pickX_b, XA_skip_blk, XA_skip_lp, XA_exit_seq, XA_exit_lp, XA_exit_blk, XA_exit_nil, load1, Ev.loadCells, objCells, bodyCells, setCells, AV.flat, AV.flat1, backR, backV, backCell, mapO, AV.cells, AV.atom, AV.tree, fillV, repeatL, treeCell, freezeAll, eqCells, callV_T, callV_F, passV, passCell, srcCells, sliceBounds, hiB, loB, thenQ_nA, thenQ_xA, thenQ_rA, runK_nA, runK_xA, runK_rA, wrap_i64, wrap_u64, wrap_u32, wrap_u8, wrap_u16, XA_round, normA, lkE, fixObjs, fixBody, fixV, fixCell, goN_someA, c1, e1, e2, f1, f2, hfl, hk, wakes_ev]
  · have hk : decide (key4 a0 a1 a2 a3 < key4 b0 b1 b2 b3) = decide (a0 < b0) := by
      unfold key4
      by_cases c : a0 < b0
      · rw [decide_eq_true c, decide_eq_true]; omega
      · rw [decide_eq_false c, decide_eq_false]; omega
    simp [beqI, bneI, mm_min2, mm_max2, mm_min3, mm_max3, startE, lkE, lkX, lkE_rest, sx, substE, opVA, objs0, List.replicate, XA_seq, XA_region, XOA_go, goE_someA, opV, ev, putA, layAll, XOA_nil, XA_skip_seq, XA_skip_nil, XOA_gd, goG_tA, goG_uA, binV, bi_add, bi_sub, bi_mul, bi_quo, bi_rem, bi_eql, bi_neq, bi_lss, bi_leq, bi_gtr, bi_geq, bi_shl, bi_shr, bi_and, bi_or, bi_xor, unV, XA_ret_nil, XA_ret_cons, endFA_r, endFA_n, endTA_r, endTA_n, endRA_r, endRA_n, fltR, resultsA, resAs, resA, XA_block, XA_cond, pickX_t, pickX_f, pickX_b, XA_skip_blk, XA_skip_lp, XA_exit_seq, XA_exit_lp, XA_exit_blk, XA_exit_nil, load1, Ev.loadCells, objCells, bodyCells, setCells, AV.flat, AV.flat1, backR, backV, backCell, mapO, AV.cells, AV.atom, AV.tree, fillV, repeatL, treeCell, freezeAll, eqCells, callV_T, callV_F, passV, passCell, srcCells, sliceBounds, hiB, loB, thenQ_nA, thenQ_xA, thenQ_rA, runK_nA, runK_xA, runK_rA, wrap_i64, wrap_u64, wrap_u32, wrap_u8, wrap_u16, XA_round, normA, lkE, fixObjs, fixBody, fixV, fixCell, goN_someA, c0, e1, e2, f1, f2, hfl, hk, wakes_ev]
theorem codeOrder_law (l : List AV) (h : RDargs [.int .i64, .int .i64, gP] l) : ∃ H1, cfT tab 3 l [] = some (.bool true, H1) := by
  obtain ⟨x, r, rfl, hx, y, r, rfl, hy, p, r, rfl, hp, rfl⟩ := h
  obtain ⟨x, rfl, hx'⟩ := rdarg_i64 hx
  obtain ⟨y, rfl, hy'⟩ := rdarg_i64 hy
  simp only [RDarg, gP, isAggG, if_true] at hp
  obtain ⟨cs, rfl, L, hL, rfl, hel⟩ := hp
  match L, hL, hel with
  | [l1, l2], _, hel =>
    obtain ⟨a0, a1, a2, a3, rfl, ha0, ha1, ha2, ha3⟩ := rd_n (hel l1 (by simp))
    obtain ⟨b0, b1, b2, b3, rfl, hb0, hb1, hb2, hb3⟩ := rd_n (hel l2 (by simp))
    exact cvF_bool (codeOrder_ev x y a0 a1 a2 a3 b0 b1 b2 b3 hx' hy' ha0 ha1 ha2 ha3 hb0 hb1 hb2 hb3)
theorem codeOrder_lifted (os : Os) (started : os.Started) (H : Type) (enc : TypeId × Value → H) :
    ReturnsInHanded {} Try.checked os 3 .any (Rows.codeOrderSpec.pre6 enc Try.prog Try.f3 Rows.codeOrderRow.domain false) (Rows.codeOrderSpec.post enc Try.prog Try.f3 false true false false) := by
  refine returnsInHanded_of_change (C := Try.checked) Try.own started (by kernel_rfl) Try.func3
    (ChangeSpec.witness6 (enc := enc) (C := Try.checked) false ⟨#[], #[.int .i64 0, .int .i64 0, .agg #[.int .u8 0, .int .u8 0, .int .u8 0, .int .u8 0, .int .u8 0, .int .u8 0, .int .u8 0, .int .u8 0]], []⟩ 8 (by kernel_rfl) (by kernel_rfl) (by kernel_rfl) (by kernel_rfl)) ?_
  intro W base args ds gs before hval hW hcnd _
  have hval' : ∀ (j : Nat) (t : TypeId) (v : Value), Try.f3.params.toList[j]? = some t → args[j]? = some v → Value.okWide Try.prog W .any base t v := fun j t v h1 h2 => hval j t v (by simpa using h1) h2
  obtain ⟨p, q, hA, hV, hpq, _, _⟩ := id hW
  have hg : gtsB Try.prog [.int .i64, .int .i64, gP] Try.f3.params.toList = true := by kernel_rfl
  refine (law_calls' tab_ok hg codeOrder_law hval' hA).mono fun e W' ⟨he, hb⟩ => ?_
  subst he
  refine ⟨_, rfl, post_true Try.laidOut (rt := 4) (fun ds h => ?_) rfl (by kernel_rfl) (by kernel_rfl) (by kernel_rfl) hW hb⟩
  match ds, h with
  | [_, _, _], _ => rfl
theorem codeOrder_holds : Rows.CodeOrderSaid :=
  OpenClaim.holds_of_wide 3 Try.f3 rfl rfl rfl rfl rfl rfl rfl ⟨rfl, rfl, rfl, rfl, rfl⟩ rfl rfl rfl rfl rfl (by kernel_rfl) Try.func3 (by kernel_rfl)
    (of_decide_eq_true (by kernel_rfl)) (by unfold Func.isWrapper; first | (rw [if_pos (by decide +kernel)]; kernel_rfl) | (rw [if_neg (by decide +kernel)]; exact ⟨rfl, rfl⟩))
    (fun os started H enc _ => codeOrder_lifted os started H enc)
end Go.Proofs.Ytooddcjdaempeaa
