/- A number has as few digits as can be. -/
import Derived.Test.YtooddcjdaempeaaCodeE
set_option linter.unusedSimpArgs false
set_option linter.unusedVariables false
set_option maxHeartbeats 4000000
set_option maxRecDepth 100000
namespace Go.Proofs.Ytooddcjdaempeaa
open Go.Ev
theorem gv_cut : ∀ (u k i : Nat) (a : Int), k < (digN u).length → gv ((digN u).take k) i a = none := by
  intro u
  induction u using Nat.strongRecOn with
  | _ u ih =>
    intro k i a hk
    cases k with
    | zero => rfl
    | succ k =>
      by_cases h : u < 128
      · rw [digN_low h] at hk; simp at hk
      · rw [digN_high h] at hk ⊢
        have c1 : (128 : Int) ≤ ((u % 128 + 128 : Nat) : Int) := by omega
        rw [List.take_succ_cons]
        by_cases h10 : i = 10
        · subst h10; exact gv_ten _ _
        · simp only [gv, if_neg h10, if_pos c1]
          exact ih (u / 128) (by omega) k _ _ (by simpa using hk)
theorem gv_long : ∀ (l : List Int) (i : Nat) (a : Int), (∀ c ∈ l, 128 ≤ c) → (l ≠ [] ∨ 0 < i) → gv (l ++ [0]) i a = none
  | [], i, a, _, h => by
    have h0 : 0 < i := by
      rcases h with h | h
      · exact absurd rfl h
      · exact h
    by_cases h10 : i = 10
    · subst h10; rfl
    · simp [gv, h10, h0]
  | c :: r, i, a, hc, _ => by
    by_cases h10 : i = 10
    · subst h10; exact gv_ten _ _
    · rw [List.cons_append]
      simp only [gv, if_neg h10, if_pos (hc c (by simp))]
      exact gv_long r (i + 1) _ (fun x hx => hc x (by simp [hx])) (.inr (by omega))
theorem last_dig : ∀ (u : Nat), 0 ≤ gI (digN u) ((digN u).length - 1) ∧ gI (digN u) ((digN u).length - 1) < 128 ∧
    ∀ c ∈ (digN u).set ((digN u).length - 1) (gI (digN u) ((digN u).length - 1) + 128), 128 ≤ c := by
  intro u
  induction u using Nat.strongRecOn with
  | _ u ih =>
    by_cases h : u < 128
    · rw [digN_low h]
      simp [gI]
      omega
    · rw [digN_high h]
      obtain ⟨h1, h2, h3⟩ := ih (u / 128) (by omega)
      have hp := digN_pos (u / 128)
      generalize digN (u / 128) = t at *
      obtain ⟨n, hn⟩ : ∃ n, t.length = n + 1 := ⟨t.length - 1, by omega⟩
      have e : (((u % 128 + 128 : Nat) : Int) :: t).length - 1 = n + 1 := by simp [hn]
      have e2 : t.length - 1 = n := by omega
      rw [e2] at h1 h2 h3
      have e3 : gI (((u % 128 + 128 : Nat) : Int) :: t) (n + 1) = gI t n := by simp [gI]
      rw [e, e3]
      refine ⟨h1, h2, fun c hc => ?_⟩
      rw [List.set_cons_succ] at hc
      rcases List.mem_cons.1 hc with rfl | hc
      · omega
      · exact h3 c hc
theorem codeShort_ev (u : Nat) (cut : Int) (hu : u < 18446744073709551616) (hcut : inI cut) : cvF tab 6 [.int .u64 u, .int .i64 cut] = some (.bool true) := by
  refine cvFA_R (mf := Mf.f6) rfl rfl (by kernel_rfl) ?_
  simp only [Mf.f6]
  have e1 := put_ev [] u (by simp) hu
  simp [rB] at e1
  have hten := digN_ten hu
  have hpos := digN_pos u
  have s : (u : Int).fdiv 128 = ((u / 128 : Nat) : Int) := by
    have := fdiv_eq (u : Int) 128
    rw [show ((128 : Nat) : Int) = 128 from rfl] at this
    rw [this]; omega
  simp [beqI, bneI, mm_min2, mm_max2, mm_min3, mm_max3, startE, lkE, lkX, lkE_rest, sx, substE, opVA, objs0, List.replicate, XA_seq, XA_region, XOA_go, goE_someA, opV, ev, putA, layAll, XOA_nil, XA_skip_seq, XA_skip_nil, XOA_gd, goG_tA, goG_uA, binV, bi_add, bi_sub, bi_mul, bi_quo, bi_rem, bi_eql, bi_neq, bi_lss, bi_leq, bi_gtr, bi_geq, bi_shl, bi_shr, bi_and, bi_or, bi_xor, unV, XA_ret_nil, XA_ret_cons, endFA_r, endFA_n, endTA_r, endTA_n, endRA_r, endRA_n, fltR, resultsA, resAs, resA, XA_block, XA_cond, pickX_t, pickX_f, pickX_b, XA_skip_blk, XA_skip_lp, XA_exit_seq, XA_exit_lp, XA_exit_blk, XA_exit_nil, load1, Ev.loadCells, objCells, bodyCells, setCells, AV.flat, AV.flat1, backR, backV, backCell, mapO, AV.cells, AV.atom, AV.tree, fillV, repeatL, treeCell, freezeAll, eqCells, callV_T, callV_F, passV, passCell, srcCells, sliceBounds, hiB, loB, thenQ_nA, thenQ_xA, thenQ_rA, runK_nA, runK_xA, runK_rA, wrap_i64, wrap_u64, wrap_u32, wrap_u8, wrap_u16, e1, s, IntKind.bits]
  refine XA_loop (α := Nat × Nat) (fun x => ⟨[(1, .int .i64 cut), (5, .ro (digN u).length ((digN u).map (.int .u8))), (6, .int .i64 x.1), (7, .int .u64 x.2)], [⟨0, .none⟩]⟩)
    (fun x => x.1 + (if x.2 = 0 then 0 else (digN x.2).length) = (digN u).length ∧ x.2 < 18446744073709551616) (fun x => x.2) (1, u / 128) (by simp [AV.atom, normA, lkE, fixObjs, fixBody, fixV, fixCell]) ?_ ?_
  · refine ⟨?_, by simp only; omega⟩
    simp only
    by_cases h : u < 128
    · have : u / 128 = 0 := by omega
      rw [digN_low h, if_pos this]; rfl
    · have : ¬ u / 128 = 0 := by omega
      rw [digN_high h, if_neg this, List.length_cons]; omega
  · rintro ⟨n, v⟩ ⟨hJ, hv⟩
    simp only at hJ hv
    by_cases c : v = 0
    · subst c
      rw [if_pos rfl, Nat.add_zero] at hJ
      have hnn : (n : Int) = ((digN u).length : Int) := by omega
      have hn0 : ¬ n = 0 := by omega
      have hm := Int.lt_tmod_of_pos cut (b := (n : Int)) (by omega)
      have hm2 := Int.tmod_lt_of_pos cut (b := (n : Int)) (by omega)
      obtain ⟨h1, h2, h3⟩ := last_dig u
      rw [← hJ] at h1 h2 h3
      have hlong := gv_long ((digN u).set (n - 1) (gI (digN u) (n - 1) + 128)) 0 0 h3 (.inl (fun e => by
        have := congrArg List.length e
        rw [List.length_set, List.length_nil] at this; omega))
      have hlokB : okB ((digN u).set (n - 1) (gI (digN u) (n - 1) + 128) ++ [0]) := by
        intro x hx
        rcases List.mem_append.1 hx with hx | hx
        · rcases List.mem_or_eq_of_mem_set hx with hx | rfl
          · exact digN_ok u x hx
          · exact ⟨by omega, by omega⟩
        · simp at hx; subst hx; exact ⟨by omega, by omega⟩
      have eg2 := get_ev _ hlokB (by simp; omega)
      rw [hlong] at eg2
      simp only [getV, rB] at eg2
      have hw1 : IntKind.i64.wrap ((n : Int) - 1) = ((n - 1 : Nat) : Int) := by rw [wrap_i64 (by omega) (by omega)]; omega
      have hlt : n - 1 < (digN u).length := by omega
      have hix : ((digN u).map (AV.int .u8))[n - 1]? = some (.int .u8 (gI (digN u) (n - 1))) := by
        rw [List.getElem?_map, List.getElem?_eq_getElem hlt, gI_get _ _ hlt]; rfl
      have hwl : IntKind.u8.wrap (gI (digN u) (n - 1) + 128) = gI (digN u) (n - 1) + 128 := wrap_u8 (by omega) (by omega)
      have hset := set_map (AV.int .u8) (digN u) (n - 1) (gI (digN u) (n - 1) + 128) hlt
      have q0 : ((n - 1 : Nat) : Int) < (n : Int) := by omega
      have q1 : n ≤ 140737488355328 := by omega
      have q2 : n < 4611686018427387904 := by omega
      have q3 : n + 1 ≤ 140737488355328 := by omega
      have q4 : n + 1 < 4611686018427387904 := by omega
      have q5 : n - 1 + 1 ≤ n := by omega
      have hkey : ∀ k : Nat, k < n → cvF tab 12 [.ro k (((digN u).map (.int .u8)).take k)] = some (.tup [.int .u64 0, .int .i64 0, .bool false]) := by
        intro k hk
        have e := get_ev ((digN u).take k) (fun x hx => digN_ok u x (List.mem_of_mem_take hx)) (by rw [List.length_take]; omega)
        rw [gv_cut u k 0 0 (by omega)] at e
        simp only [getV, rB, List.length_take, List.map_take, show min k (digN u).length = k from by omega] at e
        exact e
      have hll : ((digN u).set (n - 1) (gI (digN u) (n - 1) + 128) ++ [0]).length = n + 1 := by simp; omega
      have hap : ((digN u).map (AV.int .u8)).set (n - 1) (.int .u8 (gI (digN u) (n - 1) + 128)) ++ [.int .u8 0] = ((digN u).set (n - 1) (gI (digN u) (n - 1) + 128) ++ [0]).map (AV.int .u8) := by
        rw [List.map_append, List.map_set]; rfl
      rw [hll] at eg2
      have htk : List.take (n + 1) (((digN u).set (n - 1) (gI (digN u) (n - 1) + 128) ++ [0]).map (AV.int .u8)) = ((digN u).set (n - 1) (gI (digN u) (n - 1) + 128) ++ [0]).map (AV.int .u8) :=
        List.take_of_length_le (by rw [List.length_map, hll]; exact Nat.le_refl _)
      have hset' : ((digN u).map (AV.int .u8)).take (n - 1) ++ AV.int .u8 (gI (digN u) (n - 1) + 128) :: ((digN u).map (AV.int .u8)).drop (n - 1 + 1) = ((digN u).map (AV.int .u8)).set (n - 1) (.int .u8 (gI (digN u) (n - 1) + 128)) := by
        rw [List.set_eq_take_append_cons_drop, if_pos (by rw [List.length_map]; exact hlt)]
      have hdl : ((digN u).map (AV.int .u8)).length = (digN u).length := by simp
      generalize (digN u).set (n - 1) (gI (digN u) (n - 1) + 128) ++ [0] = l' at *
      generalize (digN u).map (AV.int .u8) = dm at *
      generalize (digN u).length = L at *
      subst hJ
      generalize htm : cut.tmod (n : Int) = tm at *
      by_cases ck : tm < 0
      · obtain ⟨k, hk⟩ := nat_of (show 0 ≤ -tm by omega)
        have hk2 := hkey k (by omega)
        have hwn : IntKind.i64.wrap (0 - tm) = (k : Int) := by rw [wrap_i64 (by omega) (by omega)]; omega
        have hwn' : IntKind.i64.wrap (-tm) = (k : Int) := by rw [wrap_i64 (by omega) (by omega)]; omega
        have hkn : (k : Int) ≤ (n : Int) := by omega
        simp [beqI, bneI, mm_min2, mm_max2, mm_min3, mm_max3, startE, lkE, lkX, lkE_rest, sx, substE, opVA, objs0, List.replicate, XA_seq, XA_region, XOA_go, goE_someA, opV, ev, putA, layAll, XOA_nil, XA_skip_seq, XA_skip_nil, XOA_gd, goG_tA, goG_uA, binV, bi_add, bi_sub, bi_mul, bi_quo, bi_rem, bi_eql, bi_neq, bi_lss, bi_leq, bi_gtr, bi_geq, bi_shl, bi_shr, bi_and, bi_or, bi_xor, unV, XA_ret_nil, XA_ret_cons, endFA_r, endFA_n, endTA_r, endTA_n, endRA_r, endRA_n, fltR, resultsA, resAs, resA, XA_block, XA_cond, pickX_t, pickX_f, pickX_b, XA_skip_blk, XA_skip_lp, XA_exit_seq, XA_exit_lp, XA_exit_blk, XA_exit_nil, load1, Ev.loadCells, objCells, bodyCells, setCells, AV.flat, AV.flat1, backR, backV, backCell, mapO, AV.cells, AV.atom, AV.tree, fillV, repeatL, treeCell, freezeAll, eqCells, callV_T, callV_F, passV, passCell, srcCells, sliceBounds, hiB, loB, thenQ_nA, thenQ_xA, thenQ_rA, runK_nA, runK_xA, runK_rA, wrap_i64, wrap_u64, wrap_u32, wrap_u8, wrap_u16, AV.atom, normA, lkE, fixObjs, fixBody, fixV, fixCell, htm, ck, hwn, hwn', hk2, hw1, hix, hwl, hdl, hset', hap, hll, htk, wakes_ev, q0, q1, q2, q3, q4, q5, eg2, hkn, hn0, e1]
      · obtain ⟨k, hk⟩ := nat_of (show 0 ≤ tm by omega)
        subst hk
        have hk2 := hkey k (by omega)
        have hkn : (k : Int) ≤ (n : Int) := by omega
        simp [beqI, bneI, mm_min2, mm_max2, mm_min3, mm_max3, startE, lkE, lkX, lkE_rest, sx, substE, opVA, objs0, List.replicate, XA_seq, XA_region, XOA_go, goE_someA, opV, ev, putA, layAll, XOA_nil, XA_skip_seq, XA_skip_nil, XOA_gd, goG_tA, goG_uA, binV, bi_add, bi_sub, bi_mul, bi_quo, bi_rem, bi_eql, bi_neq, bi_lss, bi_leq, bi_gtr, bi_geq, bi_shl, bi_shr, bi_and, bi_or, bi_xor, unV, XA_ret_nil, XA_ret_cons, endFA_r, endFA_n, endTA_r, endTA_n, endRA_r, endRA_n, fltR, resultsA, resAs, resA, XA_block, XA_cond, pickX_t, pickX_f, pickX_b, XA_skip_blk, XA_skip_lp, XA_exit_seq, XA_exit_lp, XA_exit_blk, XA_exit_nil, load1, Ev.loadCells, objCells, bodyCells, setCells, AV.flat, AV.flat1, backR, backV, backCell, mapO, AV.cells, AV.atom, AV.tree, fillV, repeatL, treeCell, freezeAll, eqCells, callV_T, callV_F, passV, passCell, srcCells, sliceBounds, hiB, loB, thenQ_nA, thenQ_xA, thenQ_rA, runK_nA, runK_xA, runK_rA, wrap_i64, wrap_u64, wrap_u32, wrap_u8, wrap_u16, AV.atom, normA, lkE, fixObjs, fixBody, fixV, fixCell, htm, ck, hk2, hw1, hix, hwl, hdl, hset', hap, hll, htk, wakes_ev, q0, q1, q2, q3, q4, q5, eg2, hkn, hn0, e1]
    · have c' : (0 : Int) < (v : Int) := by omega
      have s2 : (v : Int).fdiv 128 = ((v / 128 : Nat) : Int) := by
        have := fdiv_eq (v : Int) 128
        rw [show ((128 : Nat) : Int) = 128 from rfl] at this
        rw [this]; omega
      have hw : IntKind.i64.wrap ((n : Int) + 1) = (n : Int) + 1 := wrap_i64 (by omega) (by omega)
      rw [if_neg c] at hJ
      have hv0 : 0 < v := by omega
      simp [beqI, bneI, mm_min2, mm_max2, mm_min3, mm_max3, startE, lkE, lkX, lkE_rest, sx, substE, opVA, objs0, List.replicate, XA_seq, XA_region, XOA_go, goE_someA, opV, ev, putA, layAll, XOA_nil, XA_skip_seq, XA_skip_nil, XOA_gd, goG_tA, goG_uA, binV, bi_add, bi_sub, bi_mul, bi_quo, bi_rem, bi_eql, bi_neq, bi_lss, bi_leq, bi_gtr, bi_geq, bi_shl, bi_shr, bi_and, bi_or, bi_xor, unV, XA_ret_nil, XA_ret_cons, endFA_r, endFA_n, endTA_r, endTA_n, endRA_r, endRA_n, fltR, resultsA, resAs, resA, XA_block, XA_cond, pickX_t, pickX_f, pickX_b, XA_skip_blk, XA_skip_lp, XA_exit_seq, XA_exit_lp, XA_exit_blk, XA_exit_nil, load1, Ev.loadCells, objCells, bodyCells, setCells, AV.flat, AV.flat1, backR, backV, backCell, mapO, AV.cells, AV.atom, AV.tree, fillV, repeatL, treeCell, freezeAll, eqCells, callV_T, callV_F, passV, passCell, srcCells, sliceBounds, hiB, loB, thenQ_nA, thenQ_xA, thenQ_rA, runK_nA, runK_xA, runK_rA, wrap_i64, wrap_u64, wrap_u32, wrap_u8, wrap_u16, AV.atom, normA, lkE, fixObjs, fixBody, fixV, fixCell, c', c, hv0, s2, hw, IntKind.bits]
      refine ⟨n + 1, v / 128, ⟨by simp, by simp⟩, ⟨?_, by omega⟩, by omega⟩
      by_cases h : v < 128
      · have h0 : v / 128 = 0 := by omega
        rw [digN_low h] at hJ
        rw [if_pos h0]
        simpa using hJ
      · have h0 : ¬ v / 128 = 0 := by omega
        rw [digN_high h, List.length_cons] at hJ
        rw [if_neg h0]; omega
theorem codeShort_law (l : List AV) (h : RDargs [.int .u64, .int .i64] l) : ∃ H1, cfT tab 6 l [] = some (.bool true, H1) := by
  obtain ⟨x, r, rfl, hx, y, r, rfl, hy, rfl⟩ := h
  obtain ⟨u, rfl, hu⟩ := rdarg_u64 hx
  obtain ⟨c, rfl, hc⟩ := rdarg_i64 hy
  exact cvF_bool (codeShort_ev u c hu hc)
theorem codeShort_lifted (os : Os) (started : os.Started) (H : Type) (enc : TypeId × Value → H) :
    ReturnsInHanded {} Try.checked os 6 .any (Rows.codeShortSpec.pre6 enc Try.prog Try.f6 Rows.codeShortRow.domain false) (Rows.codeShortSpec.post enc Try.prog Try.f6 false true false false) := by
  refine returnsInHanded_of_change (C := Try.checked) Try.own started (by kernel_rfl) Try.func6
    (ChangeSpec.witness6 (enc := enc) (C := Try.checked) false ⟨#[], #[.int .u64 0, .int .i64 0], []⟩ 8 (by kernel_rfl) (by kernel_rfl) (by kernel_rfl) (by kernel_rfl)) ?_
  intro W base args ds gs before hval hW hcnd _
  have hval' : ∀ (j : Nat) (t : TypeId) (v : Value), Try.f6.params.toList[j]? = some t → args[j]? = some v → Value.okWide Try.prog W .any base t v := fun j t v h1 h2 => hval j t v (by simpa using h1) h2
  obtain ⟨p, q, hA, hV, hpq, _, _⟩ := id hW
  have hg : gtsB Try.prog [.int .u64, .int .i64] Try.f6.params.toList = true := by kernel_rfl
  refine (law_calls' tab_ok hg codeShort_law hval' hA).mono fun e W' ⟨he, hb⟩ => ?_
  subst he
  refine ⟨_, rfl, post_true Try.laidOut (rt := 4) (fun ds h => ?_) rfl (by kernel_rfl) (by kernel_rfl) (by kernel_rfl) hW hb⟩
  match ds, h with
  | [_, _], _ => rfl
theorem codeShort_holds : Rows.CodeShortSaid :=
  OpenClaim.holds_of_wide 6 Try.f6 rfl rfl rfl rfl rfl rfl rfl ⟨rfl, rfl, rfl, rfl, rfl⟩ rfl rfl rfl rfl rfl (by kernel_rfl) Try.func6 (by kernel_rfl)
    (of_decide_eq_true (by kernel_rfl)) (by unfold Func.isWrapper; first | (rw [if_pos (by decide +kernel)]; kernel_rfl) | (rw [if_neg (by decide +kernel)]; exact ⟨rfl, rfl⟩))
    (fun os started H enc _ => codeShort_lifted os started H enc)
end Go.Proofs.Ytooddcjdaempeaa
