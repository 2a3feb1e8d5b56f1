/- Changes are read as they were written. -/
import Derived.Test.YtpohmfihpnineaaBtI
set_option linter.unusedSimpArgs false
set_option linter.unusedVariables false
set_option maxHeartbeats 16000000
set_option maxRecDepth 100000
namespace Go.Proofs.Ytpohmfihpnineaa
open Go.Ev
theorem back21_ev (a b : List Ch) (by' : Int) (ha : okH a) (hb : okH b) (hby : byte by') : cvF tabC 5 [rH a, rH b, .int .u8 by'] = some (.bool true) := by
  have ew := wakeC_ev
  by_cases c1 : a.length ≤ 60
  · have c1' : ¬ 60 < (a.length : Int) := by omega
    by_cases c2 : b.length ≤ 60
    · have c2' : ¬ 60 < (b.length : Int) := by omega
      have e1 := bbytes_ev a ha c1
      have e2 := bbytes_ev b hb c2
      have e3 := rbytes_ev a ha (by omega)
      have okA := batB_ok ha
      have okBb := batB_ok hb
      have la := batB_len ha (by omega)
      have lb := batB_len hb (by omega)
      have r1 := bread_ev (batB a) okA (by omega)
      rw [bat_self ha (by omega)] at r1
      have r2 := bread_ev (batB a ++ [by']) (fun x hx => (List.mem_append.1 hx).elim (okA x) (fun h => by rw [List.mem_singleton.1 h]; exact hby)) (by rw [List.length_append]; simp; omega)
      rw [bat_more ha (by omega)] at r2
      have r3 := bread_ev ((batB a).take ((batB a).length - 1)) (fun x hx => okA x (List.mem_of_mem_take hx)) (by rw [List.length_take]; omega)
      rw [bat_less ha (by omega)] at r3
      have s1 := rsame21_ev a a (by omega)
      rw [decide_eq_true rfl] at s1
      have s2 := rsame21_ev a b (by omega)
      have b1 := bytesOfR_map (batB a)
      have b2 := bytesOfR_map (batB b)
      have hin : (ub8 (batB a) = ub8 (batB b)) ↔ a = b := (ub8_inj okA okBb).trans (bat_inj ha hb (by omega) (by omega))
      unfold ub8 at hin
      have hlt : ((batB a).take ((batB a).length - 1)).length = (batB a).length - 1 := by rw [List.length_take]; omega
      have q0 : (batB a).map (AV.int .u8) ++ [.int .u8 by'] = (batB a ++ [by']).map (AV.int .u8) := by simp
      simp only [readsV, rB, rH, List.map_take, hlt, List.length_append, List.length_cons, List.length_nil, List.map_append, List.map_cons, List.map_nil] at e1 e2 e3 r1 r2 r3 s1 s2 ⊢
      generalize (batB a).map (fun n => UInt8.ofNat n.toNat) = UA at *
      generalize (batB b).map (fun n => UInt8.ofNat n.toNat) = UB at *
      have hue : (UA == UB) = decide (a = b) := by rw [Bool.eq_iff_iff, beq_iff_eq, decide_eq_true_iff]; exact hin
      have hMl : ((batB a).map (AV.int .u8)).length = (batB a).length := List.length_map ..
      have hMl2 : ((batB b).map (AV.int .u8)).length = (batB b).length := List.length_map ..
      have q7 : ((batB a).map (AV.int .u8)).all AV.tree = true := List.all_eq_true.2 fun y hy => by obtain ⟨z, _, rfl⟩ := List.mem_map.1 hy; rfl
      generalize (batB a).map (AV.int .u8) = MA at *
      generalize (batB b).map (AV.int .u8) = MB at *
      generalize (batB a).length = na at *
      generalize (batB b).length = nb at *
      generalize flatH a = fa at *
      generalize flatH b = fb at *
      have q1 : na ≤ 140737488355328 := by omega
      have q2 : na < 4611686018427387904 := by omega
      have q3 : na + 1 ≤ 140737488355328 := by omega
      have q4 : na + 1 < 4611686018427387904 := by omega
      have q5 : ¬ (na : Int) = 0 := by omega
      have q5' : ¬ na = 0 := by omega
      have q6 : IntKind.i64.wrap ((na : Int) - 1) = ((na - 1 : Nat) : Int) := by rw [wrap_i64 (by omega) (by omega)]; omega
      have q8 : List.take na MA = MA := List.take_of_length_le (by omega)
      have q9 : ((na - 1 : Nat) : Int) ≤ na := by omega
      have q10 : na - 1 ≤ na := by omega
      have q11 : List.take (na + 1) (MA ++ [AV.int .u8 by']) = MA ++ [AV.int .u8 by'] := List.take_of_length_le (by simp; omega)
      have q12 : (0 : Int) ≤ ((na - 1 : Nat) : Int) := by omega
      have q13 : ((na - 1 : Nat) : Int).toNat = na - 1 := by omega
      generalize ((na - 1 : Nat) : Int) = z at *
      refine cvFA_R (mf := Mf.f5) rfl rfl (by kernel_rfl) ?_
      simp only [Mf.f5]
      simp [beqI, bneI, mm_min2, mm_max2, mm_min3, mm_max3, startE, lkE, lkX, lkE_rest, sx, substE, opVA, objs0, List.replicate, XA_seq, XA_region, XOA_go, goE_someA, opV, ev, putA, layAll, XOA_nil, XA_skip_seq, XA_skip_nil, XOA_gd, goG_tA, goG_uA, binV, bi_add, bi_sub, bi_mul, bi_quo, bi_rem, bi_eql, bi_neq, bi_lss, bi_leq, bi_gtr, bi_geq, bi_shl, bi_shr, bi_and, bi_or, bi_xor, unV, XA_ret_nil, XA_ret_cons, endFA_r, endFA_n, endTA_r, endTA_n, endRA_r, endRA_n, endEA_r, endEA_n, List.take, fltR, resultsA, resAs, resA, XA_block, XA_cond, pickX_t, pickX_f, pickX_b, XA_skip_blk, XA_skip_lp, XA_exit_seq, XA_exit_lp, XA_exit_blk, XA_exit_nil, load1, Ev.loadCells, objCells, bodyCells, setCells, AV.flat, AV.flat1, backR, backV, backCell, mapO, AV.cells, AV.atom, AV.tree, fillV, repeatL, treeCell, freezeAll, eqCells, callV_T, callV_F, passN, passV, passCell, srcCells, sliceBounds, hiB, loB, thenQ_nA, thenQ_xA, thenQ_rA, runK_nA, runK_xA, runK_rA, wrap_i64, wrap_u64, wrap_u32, wrap_u8, wrap_u16, callV_O, okIds, passObjs, passBody, backObjs, backBody, adopts, List.idxOf?, List.findIdx?, List.findIdx?.go, isNilP, mapLook, mapGet, keyGet, adopts, List.lookup, c1', c2', e1, e2, e3, r1, r2, r3, s1, s2, b1, b2, hMl, hMl2, q1, q2, q3, q4, q5, q5', q6, q7, q8, q9, q10, q11, q12, q13, hue, ew]
    · have c2' : 60 < (b.length : Int) := by omega
      simp only [rH]
      refine cvFA_R (mf := Mf.f5) rfl rfl (by kernel_rfl) ?_
      simp only [Mf.f5]
      simp [beqI, bneI, mm_min2, mm_max2, mm_min3, mm_max3, startE, lkE, lkX, lkE_rest, sx, substE, opVA, objs0, List.replicate, XA_seq, XA_region, XOA_go, goE_someA, opV, ev, putA, layAll, XOA_nil, XA_skip_seq, XA_skip_nil, XOA_gd, goG_tA, goG_uA, binV, bi_add, bi_sub, bi_mul, bi_quo, bi_rem, bi_eql, bi_neq, bi_lss, bi_leq, bi_gtr, bi_geq, bi_shl, bi_shr, bi_and, bi_or, bi_xor, unV, XA_ret_nil, XA_ret_cons, endFA_r, endFA_n, endTA_r, endTA_n, endRA_r, endRA_n, endEA_r, endEA_n, List.take, fltR, resultsA, resAs, resA, XA_block, XA_cond, pickX_t, pickX_f, pickX_b, XA_skip_blk, XA_skip_lp, XA_exit_seq, XA_exit_lp, XA_exit_blk, XA_exit_nil, load1, Ev.loadCells, objCells, bodyCells, setCells, AV.flat, AV.flat1, backR, backV, backCell, mapO, AV.cells, AV.atom, AV.tree, fillV, repeatL, treeCell, freezeAll, eqCells, callV_T, callV_F, passN, passV, passCell, srcCells, sliceBounds, hiB, loB, thenQ_nA, thenQ_xA, thenQ_rA, runK_nA, runK_xA, runK_rA, wrap_i64, wrap_u64, wrap_u32, wrap_u8, wrap_u16, callV_O, okIds, passObjs, passBody, backObjs, backBody, adopts, List.idxOf?, List.findIdx?, List.findIdx?.go, isNilP, mapLook, mapGet, keyGet, adopts, List.lookup, c1', c2', ew]
  · have c1' : 60 < (a.length : Int) := by omega
    simp only [rH]
    refine cvFA_R (mf := Mf.f5) rfl rfl (by kernel_rfl) ?_
    simp only [Mf.f5]
    simp [beqI, bneI, mm_min2, mm_max2, mm_min3, mm_max3, startE, lkE, lkX, lkE_rest, sx, substE, opVA, objs0, List.replicate, XA_seq, XA_region, XOA_go, goE_someA, opV, ev, putA, layAll, XOA_nil, XA_skip_seq, XA_skip_nil, XOA_gd, goG_tA, goG_uA, binV, bi_add, bi_sub, bi_mul, bi_quo, bi_rem, bi_eql, bi_neq, bi_lss, bi_leq, bi_gtr, bi_geq, bi_shl, bi_shr, bi_and, bi_or, bi_xor, unV, XA_ret_nil, XA_ret_cons, endFA_r, endFA_n, endTA_r, endTA_n, endRA_r, endRA_n, endEA_r, endEA_n, List.take, fltR, resultsA, resAs, resA, XA_block, XA_cond, pickX_t, pickX_f, pickX_b, XA_skip_blk, XA_skip_lp, XA_exit_seq, XA_exit_lp, XA_exit_blk, XA_exit_nil, load1, Ev.loadCells, objCells, bodyCells, setCells, AV.flat, AV.flat1, backR, backV, backCell, mapO, AV.cells, AV.atom, AV.tree, fillV, repeatL, treeCell, freezeAll, eqCells, callV_T, callV_F, passN, passV, passCell, srcCells, sliceBounds, hiB, loB, thenQ_nA, thenQ_xA, thenQ_rA, runK_nA, runK_xA, runK_rA, wrap_i64, wrap_u64, wrap_u32, wrap_u8, wrap_u16, callV_O, okIds, passObjs, passBody, backObjs, backBody, adopts, List.idxOf?, List.findIdx?, List.findIdx?.go, isNilP, mapLook, mapGet, keyGet, adopts, List.lookup, c1', ew]
theorem batchBack_law (l : List AV) (h : RDargs [.slice gCh, .slice gCh, .int .u8] l) : ∃ H1, cfT tabC 5 l [] = some (.bool true, H1) := by
  obtain ⟨x, r, rfl, hx, y, r2, rfl, hy, z, r3, rfl, hz, rfl⟩ := h
  obtain ⟨a, rfl, ha⟩ := rdarg_chs hx
  obtain ⟨b, rfl, hb⟩ := rdarg_chs hy
  obtain ⟨n, rfl, hn⟩ := rdarg_u8 hz
  exact cvF_bool (back21_ev a b n ha hb hn)
theorem batchBack_lifted (os : Os) (started : os.Started) (H : Type) (enc : TypeId × Value → H) :
    ReturnsInHanded {} Try.checked os 5 .any (Rows.batchBackSpec.pre6 enc Try.prog Try.f5 Rows.batchBackRow.domain false) (Rows.batchBackSpec.post enc Try.prog Try.f5 false true false false) := by
  refine returnsInHanded_of_change (C := Try.checked) Try.own started (by kernel_rfl) Try.func5
    (ChangeSpec.witness6 (enc := enc) (C := Try.checked) false ⟨#[], #[.slice none 0 0 , .slice none 0 0 , .int .u8 0], []⟩ 8 (by kernel_rfl) (by kernel_rfl) (by kernel_rfl) (by kernel_rfl)) ?_
  intro W base args ds gs before hval hW hcnd _
  have hval' : ∀ (j : Nat) (t : TypeId) (v : Value), Try.f5.params.toList[j]? = some t → args[j]? = some v → Value.okWide Try.prog W .any base t v := fun j t v h1 h2 => hval j t v (by simpa using h1) h2
  obtain ⟨p, q, hA, hV, hpq, _, _⟩ := id hW
  have hg : gtsB Try.prog [.slice gCh, .slice gCh, .int .u8] Try.f5.params.toList = true := by kernel_rfl
  refine (law_calls' tabC_ok hg batchBack_law hval' hA).mono fun e W' ⟨he, hb⟩ => ?_
  subst he
  refine ⟨_, rfl, post_true Try.laidOut (rt := 4) (fun ds h => ?_) rfl (by kernel_rfl) (by kernel_rfl) (by kernel_rfl) hW hb⟩
  match ds, h with
  | [_, _, _], _ => rfl
theorem batchBack_holds : Rows.BatchBackSaid :=
  OpenClaim.holds_of_wide 5 Try.f5 rfl rfl rfl rfl rfl rfl rfl ⟨rfl, rfl, rfl, rfl, rfl⟩ rfl rfl rfl rfl rfl (by kernel_rfl) Try.func5 (by kernel_rfl)
    (of_decide_eq_true (by kernel_rfl)) (by unfold Func.isWrapper; first | (rw [if_pos (by decide +kernel)]; kernel_rfl) | (rw [if_neg (by decide +kernel)]; exact ⟨rfl, rfl⟩))
    (fun os started H enc _ => batchBack_lifted os started H enc)
end Go.Proofs.Ytpohmfihpnineaa
