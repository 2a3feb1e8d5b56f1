/- A row is read as it was written, whatever is behind it; cut off it is none; the row of any bytes, or none. -/
import Derived.Test.YtnlihobhbbopfaaRowL
import Derived.Test.YtnlihobhbbopfaaRowCom
set_option linter.unusedSimpArgs false
set_option linter.unusedVariables false
set_option maxHeartbeats 4000000
set_option maxRecDepth 100000
namespace Go.Proofs.Ytnlihobhbbopfaa
open Go.Ev
theorem zag_zig' (v : Int) (hv : inI v) : zagN (zigK v : Int) = v := by
  rw [← (zigK_eq hv).1]
  unfold zagN zigN
  split <;> split <;> omega
theorem readW_self {r : Rw} (hr : okW r) (more : List Int) : readW (rowB r ++ more) = some (r, (rowB r).length) := by
  have e1 := gv_all (zigK r.x) (digN (zigK r.y) ++ more) (zigK_eq hr.x).2
  have e2 := gv_all (zigK r.y) more (zigK_eq hr.y).2
  unfold rowB readW
  simp only [List.cons_append, List.nil_append, List.append_assoc, e1, List.drop_left, e2, zag_zig' _ hr.x, zag_zig' _ hr.y]
  simp
  omega
theorem readW_pre {b : List Int} (hb : okB b) {r : Rw} {n : Nat} (h : readW b = some (r, n)) (more : List Int) : readW (b ++ more) = some (r, n) ∧ n ≤ b.length := by
  unfold readW at h
  split at h
  · rename_i p q s t l
    have hok : okB l := fun x hx => hb x (by simp [hx])
    split at h
    · rename_i u k e1
      split at h
      · rename_i v m e2
        cases h
        have h1 := gv_inv0 hok e1
        have h2 := gv_inv0 (okB_drop hok k) e2
        have b1 := gv_inU hok e1
        have b2 := gv_inU (okB_drop hok k) e2
        have l1 := gv_nn hok e1
        have l2 := gv_nn (okB_drop hok k) e2
        rw [List.length_drop] at l2
        have hk : k = (digN u.toNat).length := by
          have := congrArg List.length h1.2
          simp only [List.length_append, List.length_drop] at this
          omega
        unfold inU at b1 b2
        have f1 := gv_all u.toNat (l.drop k ++ more) (by omega)
        rw [← List.append_assoc, ← h1.2, Int.toNat_of_nonneg h1.1, ← hk] at f1
        have f2 := gv_all v.toNat ((l.drop k).drop m ++ more) (by omega)
        have hm : m = (digN v.toNat).length := by
          have := congrArg List.length h2.2
          simp only [List.length_append, List.length_drop] at this
          omega
        rw [← List.append_assoc, ← h2.2, Int.toNat_of_nonneg h2.1, ← hm] at f2
        refine ⟨?_, by simp only [List.length_cons]; omega⟩
        unfold readW
        simp only [List.cons_append, f1]
        rw [List.drop_append_of_le_length l1.2]
        simp only [f2]
      · cases h
    · cases h
  · cases h
theorem readW_cut {r : Rw} (hr : okW r) (k : Nat) (hk : k < (rowB r).length) : readW ((rowB r).take k) = none := by
  cases e : readW ((rowB r).take k) with
  | none => rfl
  | some p =>
    obtain ⟨r2, n⟩ := p
    have h := readW_pre (fun x hx => rowB_ok hr x (List.mem_of_mem_take hx)) e ((rowB r).drop k)
    rw [List.take_append_drop] at h
    have h2 := readW_self hr []
    rw [List.append_nil, h.1] at h2
    simp at h2
    have h3 := h.2
    rw [List.length_take] at h3
    omega
theorem readW_ok {b : List Int} (hb : okB b) {r : Rw} {n : Nat} (h : readW b = some (r, n)) : okW r ∧ 0 < n := by
  unfold readW at h
  split at h
  · rename_i p q s t l
    have hok : okB l := fun x hx => hb x (by simp [hx])
    split at h
    · rename_i u k e1
      split at h
      · rename_i v m e2
        cases h
        have b1 := gv_inU hok e1
        have b2 := gv_inU (okB_drop hok k) e2
        unfold inU at b1 b2
        refine ⟨⟨hb p (by simp), hb q (by simp), hb s (by simp), hb t (by simp), ?_, ?_⟩, by omega⟩
        · unfold inI zagN; simp only; split <;> omega
        · unfold inI zagN; simp only; split <;> omega
      · cases h
    · cases h
  · cases h
theorem mod_ev (x n : Int) (hx : inI x) (hn : 0 < n) (hn2 : n ≤ 1000000) : cvF tab 17 [.int .i64 x, .int .i64 n] = some (.int .i64 (x % n)) := by
  refine cvFA_R (mf := Mf.f17) rfl rfl (by kernel_rfl) ?_
  simp only [Mf.f17]
  have hn0 : ¬ n = 0 := by omega
  unfold inI at hx
  have h1 := Int.emod_nonneg x hn0
  have h2 := Int.emod_lt_of_pos x hn
  by_cases c : 0 ≤ x
  · have e : x.tmod n = x % n := Int.tmod_eq_emod_of_nonneg c
    have c2 : ¬ x % n < 0 := by omega
    simp [beqI, bneI, mm_min2, mm_max2, mm_min3, mm_max3, startE, lkE, lkX, lkE_rest, sx, substE, opVA, objs0, List.replicate, XA_seq, XA_region, XOA_go, goE_someA, opV, ev, putA, layAll, XOA_nil, XA_skip_seq, XA_skip_nil, XOA_gd, goG_tA, goG_uA, binV, bi_add, bi_sub, bi_mul, bi_quo, bi_rem, bi_eql, bi_neq, bi_lss, bi_leq, bi_gtr, bi_geq, bi_shl, bi_shr, bi_and, bi_or, bi_xor, unV, XA_ret_nil, XA_ret_cons, endFA_r, endFA_n, endTA_r, endTA_n, endRA_r, endRA_n, fltR, resultsA, resAs, resA, XA_block, XA_cond, pickX_t, pickX_f, pickX_b, XA_skip_blk, XA_skip_lp, XA_exit_seq, XA_exit_lp, XA_exit_blk, XA_exit_nil, load1, Ev.loadCells, objCells, bodyCells, setCells, AV.flat, AV.flat1, backR, backV, backCell, mapO, AV.cells, AV.atom, AV.tree, fillV, repeatL, treeCell, freezeAll, eqCells, callV_T, callV_F, passV, passCell, srcCells, sliceBounds, hiB, loB, thenQ_nA, thenQ_xA, thenQ_rA, runK_nA, runK_xA, runK_rA, wrap_i64, wrap_u64, wrap_u32, wrap_u8, wrap_u16, hn0, e, c2]
  · by_cases c3 : x % n = 0
    · have e : x.tmod n = 0 := by
        rw [Int.tmod_eq_emod]
        have : n ∣ x := Int.dvd_of_emod_eq_zero c3
        simp [c3, this]
      simp [beqI, bneI, mm_min2, mm_max2, mm_min3, mm_max3, startE, lkE, lkX, lkE_rest, sx, substE, opVA, objs0, List.replicate, XA_seq, XA_region, XOA_go, goE_someA, opV, ev, putA, layAll, XOA_nil, XA_skip_seq, XA_skip_nil, XOA_gd, goG_tA, goG_uA, binV, bi_add, bi_sub, bi_mul, bi_quo, bi_rem, bi_eql, bi_neq, bi_lss, bi_leq, bi_gtr, bi_geq, bi_shl, bi_shr, bi_and, bi_or, bi_xor, unV, XA_ret_nil, XA_ret_cons, endFA_r, endFA_n, endTA_r, endTA_n, endRA_r, endRA_n, fltR, resultsA, resAs, resA, XA_block, XA_cond, pickX_t, pickX_f, pickX_b, XA_skip_blk, XA_skip_lp, XA_exit_seq, XA_exit_lp, XA_exit_blk, XA_exit_nil, load1, Ev.loadCells, objCells, bodyCells, setCells, AV.flat, AV.flat1, backR, backV, backCell, mapO, AV.cells, AV.atom, AV.tree, fillV, repeatL, treeCell, freezeAll, eqCells, callV_T, callV_F, passV, passCell, srcCells, sliceBounds, hiB, loB, thenQ_nA, thenQ_xA, thenQ_rA, runK_nA, runK_xA, runK_rA, wrap_i64, wrap_u64, wrap_u32, wrap_u8, wrap_u16, hn0, e, c3]
    · have e : x.tmod n = x % n - n := by
        rw [Int.tmod_eq_emod]
        have : ¬ n ∣ x := fun h => c3 (Int.emod_eq_zero_of_dvd h)
        have hneg : ¬ 0 ≤ x := c
        simp [this, hneg]
        omega
      have c2 : x % n - n < 0 := by omega
      have w : IntKind.i64.wrap (x % n - n + n) = x % n := by rw [wrap_i64 (by omega) (by omega)]; omega
      have w2 : IntKind.i64.wrap (x % n) = x % n := wrap_i64 (by omega) (by omega)
      simp [beqI, bneI, mm_min2, mm_max2, mm_min3, mm_max3, startE, lkE, lkX, lkE_rest, sx, substE, opVA, objs0, List.replicate, XA_seq, XA_region, XOA_go, goE_someA, opV, ev, putA, layAll, XOA_nil, XA_skip_seq, XA_skip_nil, XOA_gd, goG_tA, goG_uA, binV, bi_add, bi_sub, bi_mul, bi_quo, bi_rem, bi_eql, bi_neq, bi_lss, bi_leq, bi_gtr, bi_geq, bi_shl, bi_shr, bi_and, bi_or, bi_xor, unV, XA_ret_nil, XA_ret_cons, endFA_r, endFA_n, endTA_r, endTA_n, endRA_r, endRA_n, fltR, resultsA, resAs, resA, XA_block, XA_cond, pickX_t, pickX_f, pickX_b, XA_skip_blk, XA_skip_lp, XA_exit_seq, XA_exit_lp, XA_exit_blk, XA_exit_nil, load1, Ev.loadCells, objCells, bodyCells, setCells, AV.flat, AV.flat1, backR, backV, backCell, mapO, AV.cells, AV.atom, AV.tree, fillV, repeatL, treeCell, freezeAll, eqCells, callV_T, callV_F, passV, passCell, srcCells, sliceBounds, hiB, loB, thenQ_nA, thenQ_xA, thenQ_rA, runK_nA, runK_xA, runK_rA, wrap_i64, wrap_u64, wrap_u32, wrap_u8, wrap_u16, hn0, e, c2, w2]
theorem bytesOf_map (l : List Int) : Ev.bytesOf (l.map (.int .u8)) = some (l.map fun n => UInt8.ofNat n.toNat) := by
  induction l with
  | nil => rfl
  | cons a l ih => simp only [List.map, Ev.bytesOf, ih, Option.map_some]
theorem rowBack_ev (r : Rw) (more : List Int) (cut : Int) (hr : okW r) (hm : okB more) (hc : inI cut) : cvF tab 6 [.agg (rowC r), rB more, .int .i64 cut] = some (.bool true) := by
  refine cvFA_R (mf := Mf.f6) rfl rfl (by kernel_rfl) ?_
  simp only [Mf.f6]
  by_cases cm : more.length ≤ 1000
  · have cm' : ¬ 1000 < (more.length : Int) := by omega
    have e1 := rowBytes_ev r hr
    have e2 := rrowBytes_ev r hr
    have hl := rowB_len hr
    have hok := rowB_ok hr
    have e3 := rowRead_ev (rowB r ++ more) (fun x hx => (List.mem_append.1 hx).elim (hok x) (hm x)) (by rw [List.length_append]; omega)
    rw [readW_self hr more] at e3
    have e4 := mod_ev cut (rowB r).length hc (by omega) (by omega)
    obtain ⟨k, hk⟩ := nat_of (show 0 ≤ cut % ((rowB r).length : Int) from Int.emod_nonneg _ (by omega))
    have hkl : k < (rowB r).length := by
      have := Int.emod_lt_of_pos cut (show (0 : Int) < ((rowB r).length : Int) by omega)
      omega
    rw [hk] at e4
    have e5 := rowRead_ev ((rowB r).take k) (fun x hx => hok x (List.mem_of_mem_take hx)) (by rw [List.length_take]; omega)
    rw [readW_cut hr k hkl] at e5
    have e6 := rowRead_ev more hm (by omega)
    have e7 := rrowRead_ev more hm (by omega)
    have b1 := bytesOf_map (rowB r)
    generalize rowB r = B at *
    have hBl : (B.map (AV.int .u8)).length = B.length := List.length_map ..
    have hlt : (B.take k).length = k := by rw [List.length_take]; omega
    simp only [readWV, rowC, rB, List.length_append, List.map_append, List.map_take, hlt] at e1 e2 e3 e5
    have hm2 : (more.map (AV.int .u8)).length = more.length := List.length_map ..
    generalize hM : B.map (AV.int .u8) = M at *
    generalize hM2 : more.map (AV.int .u8) = M2 at *
    have q1 : ¬ (B.length : Int) < 6 := by omega
    have q2 : B.length ≤ 140737488355328 := by omega
    have q3 : B.length < 4611686018427387904 := by omega
    have q4 : B.length + more.length ≤ 140737488355328 := by omega
    have q5 : B.length + more.length < 4611686018427387904 := by omega
    have q6 : List.take (B.length + more.length) (M ++ M2) = M ++ M2 := List.take_of_length_le (by rw [List.length_append]; omega)
    have q7 : M.all AV.tree = true := by rw [← hM]; exact List.all_eq_true.2 fun y hy => by obtain ⟨z, _, rfl⟩ := List.mem_map.1 hy; rfl
    have q8 : M2.all AV.tree = true := by rw [← hM2]; exact List.all_eq_true.2 fun y hy => by obtain ⟨z, _, rfl⟩ := List.mem_map.1 hy; rfl
    have q9 : (k : Int) ≤ B.length := by omega
    have q10 : (0 : Int) ≤ k := by omega
    simp only [rB] at e6 e7
    rw [hM2] at e6 e7
    cases g : readW more with
    | none =>
      rw [g] at e6 e7
      simp only [readWV, rreadWV, rowC] at e6 e7
      simp [beqI, bneI, mm_min2, mm_max2, mm_min3, mm_max3, startE, lkE, lkX, lkE_rest, sx, substE, opVA, objs0, List.replicate, XA_seq, XA_region, XOA_go, goE_someA, opV, ev, putA, layAll, XOA_nil, XA_skip_seq, XA_skip_nil, XOA_gd, goG_tA, goG_uA, binV, bi_add, bi_sub, bi_mul, bi_quo, bi_rem, bi_eql, bi_neq, bi_lss, bi_leq, bi_gtr, bi_geq, bi_shl, bi_shr, bi_and, bi_or, bi_xor, unV, XA_ret_nil, XA_ret_cons, endFA_r, endFA_n, endTA_r, endTA_n, endRA_r, endRA_n, fltR, resultsA, resAs, resA, XA_block, XA_cond, pickX_t, pickX_f, pickX_b, XA_skip_blk, XA_skip_lp, XA_exit_seq, XA_exit_lp, XA_exit_blk, XA_exit_nil, load1, Ev.loadCells, objCells, bodyCells, setCells, AV.flat, AV.flat1, backR, backV, backCell, mapO, AV.cells, AV.atom, AV.tree, fillV, repeatL, treeCell, freezeAll, eqCells, callV_T, callV_F, passV, passCell, srcCells, sliceBounds, hiB, loB, thenQ_nA, thenQ_xA, thenQ_rA, runK_nA, runK_xA, runK_rA, wrap_i64, wrap_u64, wrap_u32, wrap_u8, wrap_u16, rB, rowC, cm', e1, e2, e3, e4, e5, e6, e7, b1, hBl, hm2, hM2, q1, q2, q3, q4, q5, q6, q7, q8, q9, q10, wakes_ev]
    | some p =>
      obtain ⟨r2, n2⟩ := p
      have hn2 := (readW_ok hm g).2
      rw [g] at e6 e7
      simp only [readWV, rreadWV, rowC] at e6 e7
      simp [beqI, bneI, mm_min2, mm_max2, mm_min3, mm_max3, startE, lkE, lkX, lkE_rest, sx, substE, opVA, objs0, List.replicate, XA_seq, XA_region, XOA_go, goE_someA, opV, ev, putA, layAll, XOA_nil, XA_skip_seq, XA_skip_nil, XOA_gd, goG_tA, goG_uA, binV, bi_add, bi_sub, bi_mul, bi_quo, bi_rem, bi_eql, bi_neq, bi_lss, bi_leq, bi_gtr, bi_geq, bi_shl, bi_shr, bi_and, bi_or, bi_xor, unV, XA_ret_nil, XA_ret_cons, endFA_r, endFA_n, endTA_r, endTA_n, endRA_r, endRA_n, fltR, resultsA, resAs, resA, XA_block, XA_cond, pickX_t, pickX_f, pickX_b, XA_skip_blk, XA_skip_lp, XA_exit_seq, XA_exit_lp, XA_exit_blk, XA_exit_nil, load1, Ev.loadCells, objCells, bodyCells, setCells, AV.flat, AV.flat1, backR, backV, backCell, mapO, AV.cells, AV.atom, AV.tree, fillV, repeatL, treeCell, freezeAll, eqCells, callV_T, callV_F, passV, passCell, srcCells, sliceBounds, hiB, loB, thenQ_nA, thenQ_xA, thenQ_rA, runK_nA, runK_xA, runK_rA, wrap_i64, wrap_u64, wrap_u32, wrap_u8, wrap_u16, rB, rowC, cm', e1, e2, e3, e4, e5, e6, e7, b1, hBl, hm2, hM2, q1, q2, q3, q4, q5, q6, q7, q8, q9, q10, hn2, wakes_ev]
  · have cm' : 1000 < (more.length : Int) := by omega
    simp [beqI, bneI, mm_min2, mm_max2, mm_min3, mm_max3, startE, lkE, lkX, lkE_rest, sx, substE, opVA, objs0, List.replicate, XA_seq, XA_region, XOA_go, goE_someA, opV, ev, putA, layAll, XOA_nil, XA_skip_seq, XA_skip_nil, XOA_gd, goG_tA, goG_uA, binV, bi_add, bi_sub, bi_mul, bi_quo, bi_rem, bi_eql, bi_neq, bi_lss, bi_leq, bi_gtr, bi_geq, bi_shl, bi_shr, bi_and, bi_or, bi_xor, unV, XA_ret_nil, XA_ret_cons, endFA_r, endFA_n, endTA_r, endTA_n, endRA_r, endRA_n, fltR, resultsA, resAs, resA, XA_block, XA_cond, pickX_t, pickX_f, pickX_b, XA_skip_blk, XA_skip_lp, XA_exit_seq, XA_exit_lp, XA_exit_blk, XA_exit_nil, load1, Ev.loadCells, objCells, bodyCells, setCells, AV.flat, AV.flat1, backR, backV, backCell, mapO, AV.cells, AV.atom, AV.tree, fillV, repeatL, treeCell, freezeAll, eqCells, callV_T, callV_F, passV, passCell, srcCells, sliceBounds, hiB, loB, thenQ_nA, thenQ_xA, thenQ_rA, runK_nA, runK_xA, runK_rA, wrap_i64, wrap_u64, wrap_u32, wrap_u8, wrap_u16, rB, rowC, cm', wakes_ev]
theorem rd_bytes {cs : List AV} (h : RD (.slice (.int .u8)) cs) : ∃ l : List Int, cs = [rB l] ∧ l.length ≤ 9223372036854775807 ∧ okB l := by
  obtain ⟨l, h1, h2, h3⟩ := rd_slice (fun cs h => rd_u8 h) h
  exact ⟨l, h1, h2, h3⟩
theorem rdarg_bytes {a : AV} (h : RDarg (.slice (.int .u8)) a) : ∃ l : List Int, a = rB l ∧ l.length ≤ 9223372036854775807 ∧ okB l := by
  simp only [RDarg, isAggG] at h
  obtain ⟨l, h1, h2⟩ := rd_bytes h
  simp at h1
  exact ⟨l, h1, h2⟩
theorem rowBack_law (l : List AV) (h : RDargs [gRow, .slice (.int .u8), .int .i64] l) : ∃ H1, cfT tab 6 l [] = some (.bool true, H1) := by
  obtain ⟨x, r, rfl, hx, y, r, rfl, hy, t, r, rfl, ht, rfl⟩ := h
  obtain ⟨r, rfl, hr⟩ := rdarg_row hx
  obtain ⟨more, rfl, hl, hm⟩ := rdarg_bytes hy
  obtain ⟨n, rfl, hn⟩ := rdarg_i64 ht
  exact cvF_bool (rowBack_ev r more n hr hm hn)
theorem rowBack_lifted (os : Os) (started : os.Started) (H : Type) (enc : TypeId × Value → H) :
    ReturnsInHanded {} Try.checked os 6 .any (Rows.rowBackSpec.pre6 enc Try.prog Try.f6 Rows.rowBackRow.domain false) (Rows.rowBackSpec.post enc Try.prog Try.f6 false true false false) := by
  refine returnsInHanded_of_change (C := Try.checked) Try.own started (by kernel_rfl) Try.func6
    (ChangeSpec.witness6 (enc := enc) (C := Try.checked) false ⟨#[], #[.agg #[.int .u8 0, .int .u8 0, .int .u8 0, .int .u8 0, .int .i64 0, .int .i64 0], .slice none 0 0, .int .i64 0], []⟩ 8 (by kernel_rfl) (by kernel_rfl) (by kernel_rfl) (by kernel_rfl)) ?_
  intro W base args ds gs before hval hW hcnd _
  have hval' : ∀ (j : Nat) (t : TypeId) (v : Value), Try.f6.params.toList[j]? = some t → args[j]? = some v → Value.okWide Try.prog W .any base t v := fun j t v h1 h2 => hval j t v (by simpa using h1) h2
  obtain ⟨p, q, hA, hV, hpq, _, _⟩ := id hW
  have hg : gtsB Try.prog [gRow, .slice (.int .u8), .int .i64] Try.f6.params.toList = true := by kernel_rfl
  refine (law_calls' tab_ok hg rowBack_law hval' hA).mono fun e W' ⟨he, hb⟩ => ?_
  subst he
  refine ⟨_, rfl, post_true Try.laidOut (rt := 4) (fun ds h => ?_) rfl (by kernel_rfl) (by kernel_rfl) (by kernel_rfl) hW hb⟩
  match ds, h with
  | [_, _, _], _ => rfl
theorem rowBack_holds : Rows.RowBackSaid :=
  OpenClaim.holds_of_wide 6 Try.f6 rfl rfl rfl rfl rfl rfl rfl ⟨rfl, rfl, rfl, rfl, rfl⟩ rfl rfl rfl rfl rfl (by kernel_rfl) Try.func6 (by kernel_rfl)
    (of_decide_eq_true (by kernel_rfl)) (by unfold Func.isWrapper; first | (rw [if_pos (by decide +kernel)]; kernel_rfl) | (rw [if_neg (by decide +kernel)]; exact ⟨rfl, rfl⟩))
    (fun os started H enc _ => rowBack_lifted os started H enc)
end Go.Proofs.Ytnlihobhbbopfaa
