/- One number turned is another catalog. -/
import Derived.Test.YtfodjphcngidbaaSchCom
set_option linter.unusedSimpArgs false
set_option linter.unusedVariables false
set_option maxHeartbeats 8000000
set_option maxRecDepth 100000
namespace Go.Proofs.Ytfodjphcngidbaa
open Go.Ev
theorem xor_in (x y : Int) : inI (bXor .i64 x y) := by
  unfold bXor inI
  generalize ((BitVec.ofInt IntKind.i64.bits x ^^^ BitVec.ofInt IntKind.i64.bits y).toNat : Int) = z
  simp only [IntKind.wrap, IntKind.signed, IntKind.bits]
  simp
  omega
theorem wrap_nat (z : Nat) (h : z < 2 ^ 64) : (IntKind.i64.wrap (z : Int) % ((2 ^ 64 : Nat) : Int)).toNat = z := by
  simp only [IntKind.wrap, IntKind.signed, IntKind.bits]
  simp at h ⊢
  omega
theorem xor_ne (x y : Int) (h0 : 0 < y) (h1 : y ≤ 256) : bXor .i64 x y ≠ x := by
  intro h
  have hlt : (BitVec.ofInt 64 x ^^^ BitVec.ofInt 64 y).toNat < 2 ^ 64 := BitVec.isLt _
  have e : BitVec.ofInt 64 (bXor .i64 x y) = BitVec.ofInt 64 x ^^^ BitVec.ofInt 64 y := by
    apply BitVec.eq_of_toNat_eq
    rw [BitVec.toNat_ofInt]
    unfold bXor
    exact wrap_nat _ hlt
  rw [h] at e
  have e2 : BitVec.ofInt 64 y = 0#64 := by
    have := congrArg (fun z => BitVec.ofInt 64 x ^^^ z) e
    simp only [← BitVec.xor_assoc, BitVec.xor_self, BitVec.zero_xor] at this
    exact this.symm
  have e3 := congrArg BitVec.toNat e2
  rw [BitVec.toNat_ofInt] at e3
  simp at e3
  omega
theorem flatD_append (a b : List Dm) : flatD (a ++ b) = flatD a ++ flatD b := by
  induction a with
  | nil => rfl
  | cons d a ih => simp [flatD, ih]
theorem flatD_take (ds : List Dm) (i : Nat) : (flatD ds).take (i * 2) = flatD (ds.take i) := by
  induction ds generalizing i with
  | nil => simp [flatD]
  | cons d ds ih =>
    cases i with
    | zero => simp [flatD]
    | succ i =>
      rw [show (i + 1) * 2 = i * 2 + 2 from by omega]
      simp only [flatD, List.take_succ_cons, ih]
theorem flatD_drop (ds : List Dm) (i : Nat) : (flatD ds).drop (i * 2) = flatD (ds.drop i) := by
  induction ds generalizing i with
  | nil => simp [flatD]
  | cons d ds ih =>
    cases i with
    | zero => simp [flatD]
    | succ i =>
      rw [show (i + 1) * 2 = i * 2 + 2 from by omega]
      simp only [flatD, List.drop_succ_cons, ih]
theorem flatD_tree : ∀ (ds : List Dm), ∀ x ∈ flatD ds, x.tree = true
  | [], x, h => by cases h
  | d :: r, x, h => by
    simp only [flatD, List.mem_cons] at h
    rcases h with rfl | rfl | h
    · rfl
    · rfl
    · exact flatD_tree r x h
theorem schemaSame_ev (ds ds2 : List Dm) (m m2 w0 w1 w2 : Int) (hC : okC ds) (hC2 : okC ds2) (h0 : byte w0) (h1 : byte w1) (h2 : byte w2) :
    cvF tab 4 [.agg [.ro ds.length (flatD ds), .int .i64 m], .agg [.ro ds2.length (flatD ds2), .int .i64 m2], .agg [.int .u8 w0, .int .u8 w1, .int .u8 w2]] = some (.bool true) := by
  refine cvFA_R (mf := Mf.f4) rfl rfl (by kernel_rfl) ?_
  simp only [Mf.f4]
  have e1 := lightCat_ev ds m
  have e1' := lightCat_ev ds2 m2
  cases g : lightC ds with
  | false =>
    rw [g] at e1
    simp [beqI, bneI, mm_min2, mm_max2, mm_min3, mm_max3, startE, lkE, lkX, lkE_rest, sx, substE, opVA, objs0, List.replicate, XA_seq, XA_region, XOA_go, goE_someA, opV, ev, putA, layAll, XOA_nil, XA_skip_seq, XA_skip_nil, XOA_gd, goG_tA, goG_uA, binV, bi_add, bi_sub, bi_mul, bi_quo, bi_rem, bi_eql, bi_neq, bi_lss, bi_leq, bi_gtr, bi_geq, bi_shl, bi_shr, bi_and, bi_or, bi_xor, unV, XA_ret_nil, XA_ret_cons, endFA_r, endFA_n, endTA_r, endTA_n, endRA_r, endRA_n, fltR, resultsA, resAs, resA, XA_block, XA_cond, pickX_t, pickX_f, pickX_b, XA_skip_blk, XA_skip_lp, XA_exit_seq, XA_exit_lp, XA_exit_blk, XA_exit_nil, load1, Ev.loadCells, objCells, bodyCells, setCells, AV.flat, AV.flat1, backR, backV, backCell, mapO, AV.cells, AV.atom, AV.tree, fillV, repeatL, treeCell, freezeAll, eqCells, callV_T, callV_F, passV, passCell, srcCells, sliceBounds, hiB, loB, thenQ_nA, thenQ_xA, thenQ_rA, runK_nA, runK_xA, runK_rA, wrap_i64, wrap_u64, wrap_u32, wrap_u8, wrap_u16, e1, wakes_ev]
  | true =>
    cases g2 : lightC ds2 with
    | false =>
      rw [g] at e1
      rw [g2] at e1'
      simp [beqI, bneI, mm_min2, mm_max2, mm_min3, mm_max3, startE, lkE, lkX, lkE_rest, sx, substE, opVA, objs0, List.replicate, XA_seq, XA_region, XOA_go, goE_someA, opV, ev, putA, layAll, XOA_nil, XA_skip_seq, XA_skip_nil, XOA_gd, goG_tA, goG_uA, binV, bi_add, bi_sub, bi_mul, bi_quo, bi_rem, bi_eql, bi_neq, bi_lss, bi_leq, bi_gtr, bi_geq, bi_shl, bi_shr, bi_and, bi_or, bi_xor, unV, XA_ret_nil, XA_ret_cons, endFA_r, endFA_n, endTA_r, endTA_n, endRA_r, endRA_n, fltR, resultsA, resAs, resA, XA_block, XA_cond, pickX_t, pickX_f, pickX_b, XA_skip_blk, XA_skip_lp, XA_exit_seq, XA_exit_lp, XA_exit_blk, XA_exit_nil, load1, Ev.loadCells, objCells, bodyCells, setCells, AV.flat, AV.flat1, backR, backV, backCell, mapO, AV.cells, AV.atom, AV.tree, fillV, repeatL, treeCell, freezeAll, eqCells, callV_T, callV_F, passV, passCell, srcCells, sliceBounds, hiB, loB, thenQ_nA, thenQ_xA, thenQ_rA, runK_nA, runK_xA, runK_rA, wrap_i64, wrap_u64, wrap_u32, wrap_u8, wrap_u16, e1, e1', wakes_ev]
    | true =>
      rw [g] at e1
      rw [g2] at e1'
      have e2 := Same_ev ds ds2 m m2 hC
      have e3 := Same_ev ds2 ds m2 m hC2
      have e4 := rSame_ev ds ds2 m m2 hC
      have hcomm : sameC ds2 m2 ds m = sameC ds m ds2 m2 := by
        unfold sameC
        exact decide_eq_decide.2 ⟨fun h => ⟨h.1.symm, h.2.symm⟩, fun h => ⟨h.1.symm, h.2.symm⟩⟩
      rw [hcomm] at e3
      have e5 := Same_ev ds ds m (bXor .i64 m 1) hC
      have hx : sameC ds m ds (bXor .i64 m 1) = false := by
        have := xor_ne m 1 (by omega) (by omega)
        simp [sameC, this.symm]
      rw [hx] at e5
      generalize sameC ds m ds2 m2 = S1 at *
      unfold byte at h0 h1 h2
      have v0 : IntKind.i64.wrap w0 = w0 := wrap_i64 (by omega) (by omega)
      have v1 : IntKind.i64.wrap w1 = w1 := wrap_i64 (by omega) (by omega)
      have v2 : IntKind.i64.wrap w2 = w2 := wrap_i64 (by omega) (by omega)
      have v3 : IntKind.i64.wrap (1 + w2) = 1 + w2 := wrap_i64 (by omega) (by omega)
      by_cases cd : ds.length = 0
      · have cd' : ds = [] := List.length_eq_zero_iff.1 cd
        subst cd'
        simp only [flatD] at e1 e2 e3 e4 e5
        simp only [List.length_nil] at e1 e2 e3 e4 e5
        simp [beqI, bneI, mm_min2, mm_max2, mm_min3, mm_max3, startE, lkE, lkX, lkE_rest, sx, substE, opVA, objs0, List.replicate, XA_seq, XA_region, XOA_go, goE_someA, opV, ev, putA, layAll, XOA_nil, XA_skip_seq, XA_skip_nil, XOA_gd, goG_tA, goG_uA, binV, bi_add, bi_sub, bi_mul, bi_quo, bi_rem, bi_eql, bi_neq, bi_lss, bi_leq, bi_gtr, bi_geq, bi_shl, bi_shr, bi_and, bi_or, bi_xor, unV, XA_ret_nil, XA_ret_cons, endFA_r, endFA_n, endTA_r, endTA_n, endRA_r, endRA_n, fltR, resultsA, resAs, resA, XA_block, XA_cond, pickX_t, pickX_f, pickX_b, XA_skip_blk, XA_skip_lp, XA_exit_seq, XA_exit_lp, XA_exit_blk, XA_exit_nil, load1, Ev.loadCells, objCells, bodyCells, setCells, AV.flat, AV.flat1, backR, backV, backCell, mapO, AV.cells, AV.atom, AV.tree, fillV, repeatL, treeCell, freezeAll, eqCells, callV_T, callV_F, passV, passCell, srcCells, sliceBounds, hiB, loB, thenQ_nA, thenQ_xA, thenQ_rA, runK_nA, runK_xA, runK_rA, wrap_i64, wrap_u64, wrap_u32, wrap_u8, wrap_u16, flatD, e1, e1', e2, e3, e4, e5, wakes_ev]
      · have hlt8 : ds.length ≤ 8 := by
          unfold lightC at g; simp at g; exact g.1
        have cd' : (0 : Int) < (ds.length : Int) := by omega
        have cd'' : ¬ (ds.length : Int) = 0 := by omega
        have cdN : 0 < ds.length := by omega
        have cdn : ¬ ds = [] := fun h => cd (by rw [h]; rfl)
        obtain ⟨i, hi⟩ := nat_of (show 0 ≤ w0.tmod (ds.length : Int) from Int.tmod_nonneg _ h0.1)
        have hid : i < ds.length := by
          have := Int.tmod_lt_of_pos w0 cd'
          omega
        have hid' : (i : Int) < (ds.length : Int) := by omega
        have hdr := dropD ds i hid
        rw [gD_get hid] at hdr
        have hdm := List.getElem_mem hid
        have hld : ds[i].S.length ≤ 10 := by
          unfold lightC at g; simp at g
          have := g.2 _ hdm
          unfold lightD at this; simp at this
          exact this.1.1
        have hset0 : ∀ d, flatD (ds.set i d) = (flatD ds).take (i * 2) ++ (rI d.S :: rR d.U :: (flatD ds).drop ((i + 1) * 2)) := fun d => by
          rw [List.set_eq_take_append_cons_drop, if_pos hid, flatD_append, flatD_take, flatD_drop]
          rfl
        have hokd := hC.2 _ hdm
        have hfl := flatD_len ds
        by_cases cs : ds[i].S.length = 0
        · generalize ds[i] = d at *
          obtain ⟨S, U⟩ := d
          have cs' : S = [] := List.length_eq_zero_iff.1 cs
          subst cs'
          simp only [rI, rR, List.length_nil, List.map_nil] at hdr
          simp [beqI, bneI, mm_min2, mm_max2, mm_min3, mm_max3, startE, lkE, lkX, lkE_rest, sx, substE, opVA, objs0, List.replicate, XA_seq, XA_region, XOA_go, goE_someA, opV, ev, putA, layAll, XOA_nil, XA_skip_seq, XA_skip_nil, XOA_gd, goG_tA, goG_uA, binV, bi_add, bi_sub, bi_mul, bi_quo, bi_rem, bi_eql, bi_neq, bi_lss, bi_leq, bi_gtr, bi_geq, bi_shl, bi_shr, bi_and, bi_or, bi_xor, unV, XA_ret_nil, XA_ret_cons, endFA_r, endFA_n, endTA_r, endTA_n, endRA_r, endRA_n, fltR, resultsA, resAs, resA, XA_block, XA_cond, pickX_t, pickX_f, pickX_b, XA_skip_blk, XA_skip_lp, XA_exit_seq, XA_exit_lp, XA_exit_blk, XA_exit_nil, load1, Ev.loadCells, objCells, bodyCells, setCells, AV.flat, AV.flat1, backR, backV, backCell, mapO, AV.cells, AV.atom, AV.tree, fillV, repeatL, treeCell, freezeAll, eqCells, callV_T, callV_F, passV, passCell, srcCells, sliceBounds, hiB, loB, thenQ_nA, thenQ_xA, thenQ_rA, runK_nA, runK_xA, runK_rA, wrap_i64, wrap_u64, wrap_u32, wrap_u8, wrap_u16, e1, e1', e2, e3, e4, e5, wakes_ev, cd', cd'', cdN, cdn, v0, hi, hid', hdr]
        · have csI : (0 : Int) < (ds[i].S.length : Int) := by omega
          have csN : 0 < ds[i].S.length := by omega
          have csn : ¬ ds[i].S = [] := fun h => cs (by rw [h]; rfl)
          have csI' : ¬ (ds[i].S.length : Int) = 0 := by omega
          obtain ⟨k, hk⟩ := nat_of (show 0 ≤ w1.tmod (ds[i].S.length : Int) from Int.tmod_nonneg _ h1.1)
          have hkS : k < ds[i].S.length := by
            have := Int.tmod_lt_of_pos w1 csI
            omega
          have hkS' : (k : Int) < (ds[i].S.length : Int) := by omega
          have ix := idxI ds[i].S k hkS
          obtain ⟨x, hx'⟩ : ∃ x, bXor .i64 (ds[i].S[k]) (1 + w2) = x := ⟨_, rfl⟩
          have hxne : x ≠ ds[i].S[k] := by rw [← hx']; exact xor_ne _ _ (by omega) (by omega)
          have hxin : inI x := by rw [← hx']; exact xor_in _ _
          have hsetS := set_map (AV.int .i64) ds[i].S k x hkS
          have hne : ds ≠ ds.set i ⟨ds[i].S.set k x, ds[i].U⟩ := fun h => by
            have h3 := congrArg (fun l : List Dm => l[i]?) h
            simp only [List.getElem?_set_self hid, List.getElem?_eq_getElem hid, Option.some.injEq] at h3
            have h4 := congrArg (fun d : Dm => d.S[k]?) h3
            simp only [List.getElem?_set_self hkS, List.getElem?_eq_getElem hkS, Option.some.injEq] at h4
            exact hxne h4.symm
          have hset := hset0 ⟨ds[i].S.set k x, ds[i].U⟩
          have hslen : (ds.set i ⟨ds[i].S.set k x, ds[i].U⟩).length = ds.length := by simp
          have hokE : okC (ds.set i ⟨ds[i].S.set k x, ds[i].U⟩) := ⟨by rw [hslen]; exact hC.1, fun d hd => by
            rcases List.mem_or_eq_of_mem_set hd with h | rfl
            · exact hC.2 d h
            · exact ⟨⟨by rw [List.length_set]; exact hokd.1.1, fun y hy => by
                rcases List.mem_or_eq_of_mem_set hy with h | rfl
                · exact hokd.1.2 y h
                · exact hxin⟩, hokd.2⟩⟩
          have f1 := Same_ev ds (ds.set i ⟨ds[i].S.set k x, ds[i].U⟩) m m hC
          have f2 := Same_ev (ds.set i ⟨ds[i].S.set k x, ds[i].U⟩) ds m m hokE
          rw [show sameC ds m (ds.set i ⟨ds[i].S.set k x, ds[i].U⟩) m = false from by simp only [sameC]; exact decide_eq_false fun h => hne h.2] at f1
          rw [show sameC (ds.set i ⟨ds[i].S.set k x, ds[i].U⟩) m ds m = false from by simp only [sameC]; exact decide_eq_false fun h => hne h.2.symm] at f2
          rw [hslen, hset] at f1 f2
          clear hset hne hslen hokE hset0 hxne
          generalize ds[i] = d at *
          obtain ⟨S, U⟩ := d
          simp only at *
          have hkg : S[k]? = some S[k] := List.getElem?_eq_getElem hkS
          have q18 : ((i + 1) * 2 = i * 2 + 2) = True := eq_true (by omega)
          have q0 : k + 1 ≤ S.length := by omega
          have q1 : S.length * 8 ≤ 140737488355328 := by omega
          have q4 : (i : Int) ≤ (ds.length : Int) := by omega
          have q5 : min (i * 2) (ds.length * 2) = i * 2 := by omega
          have q6 : i < 4611686018427387904 := by omega
          have q7 : IntKind.i64.wrap ((i : Int) + 1) = (i : Int) + 1 := wrap_i64 (by omega) (by omega)
          have q8 : (i : Int) + 1 ≤ (ds.length : Int) := by omega
          have q9 : (0 : Int) ≤ (i : Int) + 1 := by omega
          have q10 : ((i : Int) + 1).toNat = i + 1 := by omega
          have q11 : (i + 1) * 48 ≤ 140737488355328 := by omega
          have q12 : i + 1 < 4611686018427387904 := by omega
          have q13 : ds.length * 2 - (i + 1) * 2 = (ds.length - (i + 1)) * 2 := by omega
          have q14 : (i + 1 + (ds.length - (i + 1))) = ds.length := by omega
          have q15 : ds.length * 48 ≤ 140737488355328 := by omega
          have q16 : ds.length < 4611686018427387904 := by omega
          have q17 : List.take ((ds.length - (i + 1)) * 2) (List.drop ((i + 1) * 2) (flatD ds)) = List.drop ((i + 1) * 2) (flatD ds) := List.take_of_length_le (by rw [List.length_drop, hfl]; omega)
          have q2 : S.length < 4611686018427387904 := by omega
          have q3 : i * 48 ≤ 140737488355328 := by omega
          simp only [rI, rR, List.length_set] at hdr f1 f2
          rw [show (S.set k x).map (AV.int .i64) = (S.map (AV.int .i64)).set k (.int .i64 x) from by simp] at f1 f2
          have t1 : (List.take (i * 2) (flatD ds)).all AV.tree = true := List.all_eq_true.2 fun x hx => flatD_tree ds x (List.mem_of_mem_take hx)
          have t2 : (List.drop ((i + 1) * 2) (flatD ds)).all AV.tree = true := List.all_eq_true.2 fun x hx => flatD_tree ds x (List.mem_of_mem_drop hx)
          have q19 : ∀ p q : AV, List.take (ds.length * 2) (List.take (i * 2) (flatD ds) ++ p :: q :: List.drop ((i + 1) * 2) (flatD ds)) = List.take (i * 2) (flatD ds) ++ p :: q :: List.drop ((i + 1) * 2) (flatD ds) := fun p q =>
            List.take_of_length_le (by simp only [List.length_append, List.length_take, List.length_cons, List.length_drop, hfl]; omega)
          have q20 : ds.length * 2 ≤ i * 2 + ((ds.length - (i + 1)) * 2 + 1 + 1) := by omega
          simp [beqI, bneI, mm_min2, mm_max2, mm_min3, mm_max3, startE, lkE, lkX, lkE_rest, sx, substE, opVA, objs0, List.replicate, XA_seq, XA_region, XOA_go, goE_someA, opV, ev, putA, layAll, XOA_nil, XA_skip_seq, XA_skip_nil, XOA_gd, goG_tA, goG_uA, binV, bi_add, bi_sub, bi_mul, bi_quo, bi_rem, bi_eql, bi_neq, bi_lss, bi_leq, bi_gtr, bi_geq, bi_shl, bi_shr, bi_and, bi_or, bi_xor, unV, XA_ret_nil, XA_ret_cons, endFA_r, endFA_n, endTA_r, endTA_n, endRA_r, endRA_n, fltR, resultsA, resAs, resA, XA_block, XA_cond, pickX_t, pickX_f, pickX_b, XA_skip_blk, XA_skip_lp, XA_exit_seq, XA_exit_lp, XA_exit_blk, XA_exit_nil, load1, Ev.loadCells, objCells, bodyCells, setCells, AV.flat, AV.flat1, backR, backV, backCell, mapO, AV.cells, AV.atom, AV.tree, fillV, repeatL, treeCell, freezeAll, eqCells, callV_T, callV_F, passV, passCell, srcCells, sliceBounds, hiB, loB, thenQ_nA, thenQ_xA, thenQ_rA, runK_nA, runK_xA, runK_rA, wrap_i64, wrap_u64, wrap_u32, wrap_u8, wrap_u16, e1, e1', e2, e3, e4, e5, wakes_ev, cd', cd'', cdN, cdn, v0, v1, v2, v3, hi, hk, hid', hdr, csN, csn, csI, csI', hkS', ix, hx', hkg, hkS, hsetS, q0, q1, q2, q3, q4, q5, q6, q7, q8, q9, q10, q11, q12, q13, q14, q15, q16, q17, q18, q19, q20, t1, t2, hfl, f1, f2, List.take_of_length_le]
def gA3 : GT := .arr 3 (.int .u8)
theorem schemaSame_law (l : List AV) (h : RDargs [gCat, gCat, gA3] l) : ∃ H1, cfT tab 4 l [] = some (.bool true, H1) := by
  obtain ⟨x, r, rfl, hx, y, r, rfl, hy, t, r, rfl, ht, rfl⟩ := h
  obtain ⟨ds, m, rfl, hC, hm⟩ := rdarg_cat hx
  obtain ⟨ds2, m2, rfl, hC2, hm2⟩ := rdarg_cat hy
  simp only [RDarg, gA3, isAggG, if_true] at ht
  obtain ⟨cs, rfl, L, hL, rfl, hx⟩ := ht
  match L, hL, hx with
  | [l1, l2, l3], _, hx =>
    obtain ⟨a, rfl, ha⟩ := rd_u8 (hx l1 (by simp))
    obtain ⟨b, rfl, hb⟩ := rd_u8 (hx l2 (by simp))
    obtain ⟨c, rfl, hc⟩ := rd_u8 (hx l3 (by simp))
    exact cvF_bool (schemaSame_ev ds ds2 m m2 a b c hC hC2 ha hb hc)
theorem schemaSame_lifted (os : Os) (started : os.Started) (H : Type) (enc : TypeId × Value → H) :
    ReturnsInHanded {} Try.checked os 4 .any (Rows.schemaSameSpec.pre6 enc Try.prog Try.f4 Rows.schemaSameRow.domain false) (Rows.schemaSameSpec.post enc Try.prog Try.f4 false true false false) := by
  refine returnsInHanded_of_change (C := Try.checked) Try.own started (by kernel_rfl) Try.func4
    (ChangeSpec.witness6 (enc := enc) (C := Try.checked) false ⟨#[], #[.agg #[.slice none 0 0, .int .i64 0], .agg #[.slice none 0 0, .int .i64 0], .agg #[.int .u8 0, .int .u8 0, .int .u8 0]], []⟩ 8 (by kernel_rfl) (by kernel_rfl) (by kernel_rfl) (by kernel_rfl)) ?_
  intro W base args ds gs before hval hW hcnd _
  have hval' : ∀ (j : Nat) (t : TypeId) (v : Value), Try.f4.params.toList[j]? = some t → args[j]? = some v → Value.okWide Try.prog W .any base t v := fun j t v h1 h2 => hval j t v (by simpa using h1) h2
  obtain ⟨p, q, hA, hV, hpq, _, _⟩ := id hW
  have hg : gtsB Try.prog [gCat, gCat, gA3] Try.f4.params.toList = true := by kernel_rfl
  refine (law_calls' tab_ok hg schemaSame_law hval' hA).mono fun e W' ⟨he, hb⟩ => ?_
  subst he
  refine ⟨_, rfl, post_true Try.laidOut (rt := 4) (fun ds h => ?_) rfl (by kernel_rfl) (by kernel_rfl) (by kernel_rfl) hW hb⟩
  match ds, h with
  | [_, _, _], _ => rfl
theorem schemaSame_holds : Rows.SchemaSameSaid :=
  OpenClaim.holds_of_wide 4 Try.f4 rfl rfl rfl rfl rfl rfl rfl ⟨rfl, rfl, rfl, rfl, rfl⟩ rfl rfl rfl rfl rfl (by kernel_rfl) Try.func4 (by kernel_rfl)
    (of_decide_eq_true (by kernel_rfl)) (by unfold Func.isWrapper; first | (rw [if_pos (by decide +kernel)]; kernel_rfl) | (rw [if_neg (by decide +kernel)]; exact ⟨rfl, rfl⟩))
    (fun os started H enc _ => schemaSame_lifted os started H enc)
end Go.Proofs.Ytfodjphcngidbaa
