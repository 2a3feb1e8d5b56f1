/- Queries sliced, diced, rolled up, drilled down: the program's. -/
import Derived.Test.YtambpbcdnhekbaaQJ
set_option linter.unusedSimpArgs false
set_option linter.unusedVariables false
set_option maxHeartbeats 8000000
set_option maxRecDepth 100000
namespace Go.Proofs.Ytambpbcdnhekbaa
open Go.Ev
def zeroQ : Qy := ⟨0, 0, 0, 0, [], 0, 0, 0, 0⟩
def resQ (o : Option Qy) : AV := .tup [.agg (qyC (o.getD zeroQ)), .bool o.isSome]
def toldQ (ds : List Dm) (m : Int) (q : Qy) : Option Qy := if goodQ ds m q = true then some q else none
def hasQ (ds : List Dm) (m : Int) (q : Qy) (d : Int) : Bool := goodQ ds m q && (decide (0 ≤ d) && decide (d < ds.length))
def diceQ (ds : List Dm) (m : Int) (q : Qy) (d l : Int) (ms : List Int) : Option Qy := if hasQ ds m q d = true then toldQ ds m (q.withF (q.F ++ [⟨d, l, ms⟩])) else none
def Qy.setN (q : Qy) (k : Nat) (x : Int) : Qy := match k with
  | 0 => { q with a := x }
  | 1 => { q with b := x }
  | 2 => { q with c := x }
  | 3 => { q with e := x }
  | _ => q
def sliceQ (ds : List Dm) (m : Int) (q : Qy) (d l x : Int) : Option Qy := match diceQ ds m q d l [x] with
  | some p => toldQ ds m (p.setN d.toNat (gI (wholeN ds m) d.toNat))
  | none => none
def rollQ (ds : List Dm) (m : Int) (q : Qy) (d : Int) : Option Qy := if hasQ ds m q d = true ∧ gI q.n d.toNat ≠ wOf ds d.toNat then toldQ ds m (q.setN d.toNat (gI q.n d.toNat + 1)) else none
def drillQ (ds : List Dm) (m : Int) (q : Qy) (d : Int) : Option Qy := if hasQ ds m q d = true ∧ gI q.n d.toNat ≠ 0 then toldQ ds m (q.setN d.toNat (gI q.n d.toNat - 1)) else none
theorem withF_ok {q : Qy} {F : List Fx} (h : okQ q) (hl : F.length ≤ 9223372036854775807) (hF : ∀ f ∈ F, okF f) : okQ (q.withF F) := ⟨h.a, h.b, h.c, h.e, ⟨hl, hF⟩, h.t, h.me, h.fn, h.li⟩
theorem withF_self (q : Qy) : q.withF q.F = q := rfl
theorem setN_ok {q : Qy} {k : Nat} {x : Int} (h : okQ q) (hx : byte x) : okQ (q.setN k x) := by
  unfold Qy.setN
  split
  · exact ⟨hx, h.b, h.c, h.e, h.F, h.t, h.me, h.fn, h.li⟩
  · exact ⟨h.a, hx, h.c, h.e, h.F, h.t, h.me, h.fn, h.li⟩
  · exact ⟨h.a, h.b, hx, h.e, h.F, h.t, h.me, h.fn, h.li⟩
  · exact ⟨h.a, h.b, h.c, hx, h.F, h.t, h.me, h.fn, h.li⟩
  · exact h
theorem flatF_nil : flatF [] = [] := rfl
theorem flatF_one (d l : Int) (ms : List Int) : flatF [⟨d, l, ms⟩] = [.int .i64 d, .int .i64 l, rI ms] := rfl
theorem told_q (ds : List Dm) (m : Int) (q : Qy) (hC : okC ds) (hq : okQ q) : cvT tab 51 [.agg [.ro ds.length (flatD ds), .int .i64 m], .agg (qyC q)] = some (resQ (toldQ ds m q)) := by
  refine cvTA_R (mf := Mf.f51) rfl rfl (by kernel_rfl) ?_
  simp only [Mf.f51]
  have e0 := qgood_ev ds m q hC hq
  unfold toldQ resQ
  obtain ⟨a, b, c, e, F, t, me, fn, li⟩ := q
  simp only [qyC] at e0 ⊢
  cases g : goodQ ds m ⟨a, b, c, e, F, t, me, fn, li⟩ <;> rw [g] at e0 <;> simp [beqI, bneI, mm_min2, mm_max2, mm_min3, mm_max3, startE, lkE, lkX, lkE_rest, sx, substE, opVA, objs0, List.replicate, XA_seq, XA_region, XOA_go, goE_someA, opV, ev, putA, layAll, XOA_nil, XA_skip_seq, XA_skip_nil, XOA_gd, goG_tA, goG_uA, binV, bi_add, bi_sub, bi_mul, bi_quo, bi_rem, bi_eql, bi_neq, bi_lss, bi_leq, bi_gtr, bi_geq, bi_shl, bi_shr, bi_and, bi_or, bi_xor, unV, XA_ret_nil, XA_ret_cons, endFA_r, endFA_n, endTA_r, endTA_n, endRA_r, endRA_n, fltR, resultsA, resAs, resA, XA_block, XA_cond, pickX_t, pickX_f, pickX_b, XA_skip_blk, XA_skip_lp, XA_exit_seq, XA_exit_lp, XA_exit_blk, XA_exit_nil, load1, Ev.loadCells, objCells, bodyCells, setCells, AV.flat, AV.flat1, backR, backV, backCell, mapO, AV.cells, AV.atom, AV.tree, fillV, repeatL, treeCell, freezeAll, eqCells, callV_T, callV_F, passN, passV, passCell, srcCells, sliceBounds, hiB, loB, thenQ_nA, thenQ_xA, thenQ_rA, runK_nA, runK_xA, runK_rA, wrap_i64, wrap_u64, wrap_u32, wrap_u8, wrap_u16, e0, zeroQ, flatF_nil]
theorem has_q (ds : List Dm) (m : Int) (q : Qy) (d : Int) (hC : okC ds) (hq : okQ q) : cvF tab 48 [.agg [.ro ds.length (flatD ds), .int .i64 m], .agg (qyC q), .int .i64 d] = some (.bool (hasQ ds m q d)) := by
  refine cvFA_R (mf := Mf.f48) rfl rfl (by kernel_rfl) ?_
  simp only [Mf.f48]
  have e0 := qgood_ev ds m q hC hq
  have hp := @goodQ_parts ds m q
  unfold hasQ
  have e2 := qbetween_ev d 0 ((ds.length : Int) - 1)
  have hd : decide (d ≤ (ds.length : Int) - 1) = decide (d < ds.length) := decide_eq_decide.2 (by omega)
  rw [hd] at e2
  obtain ⟨a, b, c, e, F, t, me, fn, li⟩ := q
  simp only [qyC] at e0 ⊢
  cases g : goodQ ds m ⟨a, b, c, e, F, t, me, fn, li⟩ with
  | false => rw [g] at e0; simp [beqI, bneI, mm_min2, mm_max2, mm_min3, mm_max3, startE, lkE, lkX, lkE_rest, sx, substE, opVA, objs0, List.replicate, XA_seq, XA_region, XOA_go, goE_someA, opV, ev, putA, layAll, XOA_nil, XA_skip_seq, XA_skip_nil, XOA_gd, goG_tA, goG_uA, binV, bi_add, bi_sub, bi_mul, bi_quo, bi_rem, bi_eql, bi_neq, bi_lss, bi_leq, bi_gtr, bi_geq, bi_shl, bi_shr, bi_and, bi_or, bi_xor, unV, XA_ret_nil, XA_ret_cons, endFA_r, endFA_n, endTA_r, endTA_n, endRA_r, endRA_n, fltR, resultsA, resAs, resA, XA_block, XA_cond, pickX_t, pickX_f, pickX_b, XA_skip_blk, XA_skip_lp, XA_exit_seq, XA_exit_lp, XA_exit_blk, XA_exit_nil, load1, Ev.loadCells, objCells, bodyCells, setCells, AV.flat, AV.flat1, backR, backV, backCell, mapO, AV.cells, AV.atom, AV.tree, fillV, repeatL, treeCell, freezeAll, eqCells, callV_T, callV_F, passN, passV, passCell, srcCells, sliceBounds, hiB, loB, thenQ_nA, thenQ_xA, thenQ_rA, runK_nA, runK_xA, runK_rA, wrap_i64, wrap_u64, wrap_u32, wrap_u8, wrap_u16, e0]
  | true =>
    have hl := goodC_len (goodN_good (hp g).1)
    have hw : IntKind.i64.wrap ((ds.length : Int) - 1) = (ds.length : Int) - 1 := wrap_i64 (by omega) (by omega)
    rw [g] at e0
    simp [beqI, bneI, mm_min2, mm_max2, mm_min3, mm_max3, startE, lkE, lkX, lkE_rest, sx, substE, opVA, objs0, List.replicate, XA_seq, XA_region, XOA_go, goE_someA, opV, ev, putA, layAll, XOA_nil, XA_skip_seq, XA_skip_nil, XOA_gd, goG_tA, goG_uA, binV, bi_add, bi_sub, bi_mul, bi_quo, bi_rem, bi_eql, bi_neq, bi_lss, bi_leq, bi_gtr, bi_geq, bi_shl, bi_shr, bi_and, bi_or, bi_xor, unV, XA_ret_nil, XA_ret_cons, endFA_r, endFA_n, endTA_r, endTA_n, endRA_r, endRA_n, fltR, resultsA, resAs, resA, XA_block, XA_cond, pickX_t, pickX_f, pickX_b, XA_skip_blk, XA_skip_lp, XA_exit_seq, XA_exit_lp, XA_exit_blk, XA_exit_nil, load1, Ev.loadCells, objCells, bodyCells, setCells, AV.flat, AV.flat1, backR, backV, backCell, mapO, AV.cells, AV.atom, AV.tree, fillV, repeatL, treeCell, freezeAll, eqCells, callV_T, callV_F, passN, passV, passCell, srcCells, sliceBounds, hiB, loB, thenQ_nA, thenQ_xA, thenQ_rA, runK_nA, runK_xA, runK_rA, wrap_i64, wrap_u64, wrap_u32, wrap_u8, wrap_u16, e0, hw, e2]
theorem hasQ_parts {ds : List Dm} {m : Int} {q : Qy} {d : Int} (h : hasQ ds m q d = true) : goodQ ds m q = true ∧ 0 ≤ d ∧ d < ds.length ∧ d.toNat < 4 ∧ ds.length ≤ 4 ∧ goodC ds m = true ∧ q.F.length ≤ 6 := by
  simp only [hasQ, Bool.and_eq_true, decide_eq_true_eq] at h
  have hp := goodQ_parts h.1
  have hg := goodN_good hp.1
  have hl := goodC_len hg
  exact ⟨h.1, h.2.1, h.2.2, by omega, hl.2.1, hg, hp.2.1⟩
theorem fixG_ms {ds : List Dm} {m : Int} {f : Fx} (g : goodC ds m = true) (h : fixG ds f = true) : f.ms.length ≤ 1000 := by
  have h0 := h
  simp only [fixG, Bool.and_eq_true, decide_eq_true_eq] at h
  obtain ⟨_, h3, h4⟩ := h
  have hs := sizeD_range (gD ds f.d.toNat).S (gD ds f.d.toNat).U f.l
  have key : ∀ i, i < f.ms.length → (i : Int) ≤ gI f.ms i := by
    intro i
    induction i with
    | zero =>
      intro hi
      have := (List.all_eq_true.1 h4) 0 (List.mem_range.2 hi)
      simp only [msAt, Bool.and_eq_true, decide_eq_true_eq] at this
      omega
    | succ i ih =>
      intro hi
      have h5 := ih (by omega)
      have := (List.all_eq_true.1 h4) (i + 1) (List.mem_range.2 hi)
      simp only [msAt, Bool.and_eq_true, decide_eq_true_eq, Bool.or_eq_true, Nat.add_sub_cancel] at this
      omega
  have h6 := key (f.ms.length - 1) (by omega)
  have h7 := (List.all_eq_true.1 h4) (f.ms.length - 1) (List.mem_range.2 (by omega))
  simp only [msAt, Bool.and_eq_true, decide_eq_true_eq] at h7
  unfold szF at h7
  omega
theorem dice_q (ds : List Dm) (m : Int) (q : Qy) (d l : Int) (ms : List Int) (hC : okC ds) (hq : okQ q) (hd : inI d) (hl : inI l) (hms : okI ms) (hml : ms.length ≤ 1000000000) :
    cvT tab 34 [.agg [.ro ds.length (flatD ds), .int .i64 m], .agg (qyC q), .int .i64 d, .int .i64 l, rI ms] = some (resQ (diceQ ds m q d l ms)) := by
  refine cvTA_R (mf := Mf.f34) rfl rfl (by kernel_rfl) ?_
  simp only [Mf.f34]
  have e1 := has_q ds m q d hC hq
  unfold diceQ
  cases g : hasQ ds m q d with
  | false =>
    rw [g] at e1
    obtain ⟨a, b, c, e, F, t, me, fn, li⟩ := q
    simp only [qyC, rI] at e1 ⊢
    simp [beqI, bneI, mm_min2, mm_max2, mm_min3, mm_max3, startE, lkE, lkX, lkE_rest, sx, substE, opVA, objs0, List.replicate, XA_seq, XA_region, XOA_go, goE_someA, opV, ev, putA, layAll, XOA_nil, XA_skip_seq, XA_skip_nil, XOA_gd, goG_tA, goG_uA, binV, bi_add, bi_sub, bi_mul, bi_quo, bi_rem, bi_eql, bi_neq, bi_lss, bi_leq, bi_gtr, bi_geq, bi_shl, bi_shr, bi_and, bi_or, bi_xor, unV, XA_ret_nil, XA_ret_cons, endFA_r, endFA_n, endTA_r, endTA_n, endRA_r, endRA_n, fltR, resultsA, resAs, resA, XA_block, XA_cond, pickX_t, pickX_f, pickX_b, XA_skip_blk, XA_skip_lp, XA_exit_seq, XA_exit_lp, XA_exit_blk, XA_exit_nil, load1, Ev.loadCells, objCells, bodyCells, setCells, AV.flat, AV.flat1, backR, backV, backCell, mapO, AV.cells, AV.atom, AV.tree, fillV, repeatL, treeCell, freezeAll, eqCells, callV_T, callV_F, passN, passV, passCell, srcCells, sliceBounds, hiB, loB, thenQ_nA, thenQ_xA, thenQ_rA, runK_nA, runK_xA, runK_rA, wrap_i64, wrap_u64, wrap_u32, wrap_u8, wrap_u16, e1, resQ, zeroQ, flatF_nil, qyC]
  | true =>
    rw [g] at e1
    rw [if_pos rfl]
    have hp := hasQ_parts g
    have hF := (goodQ_parts hp.1).2.2.1
    have e2 := own_ev q [⟨d, l, ms⟩] (by omega) (by simp) (fun f hf => by
      rcases List.mem_append.1 hf with h | h
      · have := fixG_ms hp.2.2.2.2.2.1 (hF f h); omega
      · simp at h; subst h; exact hml)
    have hq2 : okQ (q.withF (q.F ++ [⟨d, l, ms⟩])) := withF_ok hq (by rw [List.length_append]; simp; omega) (fun f hf => by
      rcases List.mem_append.1 hf with h | h
      · exact hq.F.2 f h
      · simp at h; subst h; exact ⟨hd, hl, hms⟩)
    have e3 := told_q ds m _ hC hq2
    generalize toldQ ds m (q.withF (q.F ++ [⟨d, l, ms⟩])) = Z at *
    generalize q.withF (q.F ++ [⟨d, l, ms⟩]) = p at *
    clear hp hF hq2
    obtain ⟨a, b, c, e, F, t, me, fn, li⟩ := q
    obtain ⟨a', b', c', e', F', t', me', fn', li'⟩ := p
    simp only [resQ] at e3 ⊢
    generalize Z.isSome = k at *
    generalize Z.getD zeroQ = y at *
    obtain ⟨a2, b2, c2, e2', F2, t2, me2, fn2, li2⟩ := y
    simp only [qyC, rI] at e1 e2 e3 ⊢
    rw [flatF_one] at e2
    simp [rI] at e2
    simp [beqI, bneI, mm_min2, mm_max2, mm_min3, mm_max3, startE, lkE, lkX, lkE_rest, sx, substE, opVA, objs0, List.replicate, XA_seq, XA_region, XOA_go, goE_someA, opV, ev, putA, layAll, XOA_nil, XA_skip_seq, XA_skip_nil, XOA_gd, goG_tA, goG_uA, binV, bi_add, bi_sub, bi_mul, bi_quo, bi_rem, bi_eql, bi_neq, bi_lss, bi_leq, bi_gtr, bi_geq, bi_shl, bi_shr, bi_and, bi_or, bi_xor, unV, XA_ret_nil, XA_ret_cons, endFA_r, endFA_n, endTA_r, endTA_n, endRA_r, endRA_n, fltR, resultsA, resAs, resA, XA_block, XA_cond, pickX_t, pickX_f, pickX_b, XA_skip_blk, XA_skip_lp, XA_exit_seq, XA_exit_lp, XA_exit_blk, XA_exit_nil, load1, Ev.loadCells, objCells, bodyCells, setCells, AV.flat, AV.flat1, backR, backV, backCell, mapO, AV.cells, AV.atom, AV.tree, fillV, repeatL, treeCell, freezeAll, eqCells, callV_T, callV_F, passN, passV, passCell, srcCells, sliceBounds, hiB, loB, thenQ_nA, thenQ_xA, thenQ_rA, runK_nA, runK_xA, runK_rA, wrap_i64, wrap_u64, wrap_u32, wrap_u8, wrap_u16, e1, e2, e3]
theorem gI_n (q : Qy) (k : Nat) (h : k < 4) : gI q.n k = match k with | 0 => q.a | 1 => q.b | 2 => q.c | _ => q.e := by
  have h4 : k = 0 ∨ k = 1 ∨ k = 2 ∨ k = 3 := by omega
  rcases h4 with rfl | rfl | rfl | rfl <;> rfl
theorem levels_ok {ds : List Dm} {m d : Int} (g : goodC ds m = true) (h0 : 0 ≤ d) (h1 : d < ds.length) : levelsC ds m d = (wOf ds d.toNat : Int) + 1 := by
  unfold levelsC wOf
  rw [if_pos ⟨g, h0, h1⟩, if_pos (by omega)]
theorem own0_ev (q : Qy) (hF : q.F.length ≤ 500) (hms : ∀ f ∈ q.F, f.ms.length ≤ 1000000000) : cvT tab 50 [.agg (qyC q), .ro 0 []] = some (.agg (qyC q)) := by
  have e := own_ev q [] hF (by simp) (fun f hf => hms f (by simpa using hf))
  rw [List.append_nil, withF_self, flatF_nil] at e
  exact e
theorem roll_q (ds : List Dm) (m : Int) (q : Qy) (d : Int) (hC : okC ds) (hq : okQ q) :
    cvT tab 23 [.agg [.ro ds.length (flatD ds), .int .i64 m], .agg (qyC q), .int .i64 d] = some (resQ (rollQ ds m q d)) := by
  refine cvTA_R (mf := Mf.f23) rfl rfl (by kernel_rfl) ?_
  simp only [Mf.f23]
  have e1 := has_q ds m q d hC hq
  unfold rollQ
  cases g : hasQ ds m q d with
  | false =>
    rw [g] at e1
    obtain ⟨a, b, c, e, F, t, me, fn, li⟩ := q
    simp only [qyC] at e1 ⊢
    simp [beqI, bneI, mm_min2, mm_max2, mm_min3, mm_max3, startE, lkE, lkX, lkE_rest, sx, substE, opVA, objs0, List.replicate, XA_seq, XA_region, XOA_go, goE_someA, opV, ev, putA, layAll, XOA_nil, XA_skip_seq, XA_skip_nil, XOA_gd, goG_tA, goG_uA, binV, bi_add, bi_sub, bi_mul, bi_quo, bi_rem, bi_eql, bi_neq, bi_lss, bi_leq, bi_gtr, bi_geq, bi_shl, bi_shr, bi_and, bi_or, bi_xor, unV, XA_ret_nil, XA_ret_cons, endFA_r, endFA_n, endTA_r, endTA_n, endRA_r, endRA_n, fltR, resultsA, resAs, resA, XA_block, XA_cond, pickX_t, pickX_f, pickX_b, XA_skip_blk, XA_skip_lp, XA_exit_seq, XA_exit_lp, XA_exit_blk, XA_exit_nil, load1, Ev.loadCells, objCells, bodyCells, setCells, AV.flat, AV.flat1, backR, backV, backCell, mapO, AV.cells, AV.atom, AV.tree, fillV, repeatL, treeCell, freezeAll, eqCells, callV_T, callV_F, passN, passV, passCell, srcCells, sliceBounds, hiB, loB, thenQ_nA, thenQ_xA, thenQ_rA, runK_nA, runK_xA, runK_rA, wrap_i64, wrap_u64, wrap_u32, wrap_u8, wrap_u16, e1, resQ, zeroQ, flatF_nil, qyC]
  | true =>
    rw [g] at e1
    have hp := hasQ_parts g
    obtain ⟨hg, h0, h1, h4, h5, h6, h7⟩ := hp
    have hgp := goodQ_parts hg
    have hF := hgp.2.2.1
    have e4 := slevels_ev ds m d hC
    rw [levels_ok h6 h0 h1] at e4
    have hgl := (goodN_iff h6 hq.n).1 hgp.1
    have e2 := own0_ev q (by omega) (fun f hf => by have := fixG_ms h6 (hF f hf); omega)
    have hwl := wOf_le h6 d.toNat
    have hnb := hq.n.at h4
    have e3 := fun (x : Int) (hx : byte x) => told_q ds m (q.setN d.toNat x) hC (setN_ok hq hx)
    obtain ⟨k, rfl⟩ : ∃ k : Nat, d = k := ⟨d.toNat, by omega⟩
    simp only [Int.toNat_natCast] at *
    have hwr : IntKind.i64.wrap ((wOf ds k : Int) + 1 - 1) = (wOf ds k : Int) := by rw [wrap_i64 (by omega) (by omega)]; omega
    have hwr2 : IntKind.i64.wrap (wOf ds k : Int) = (wOf ds k : Int) := wrap_i64 (by omega) (by omega)
    have hle : gI q.n k ≤ (wOf ds k : Int) := by
      have h4 : k = 0 ∨ k = 1 ∨ k = 2 ∨ k = 3 := by omega
      rcases h4 with rfl | rfl | rfl | rfl
      · exact hgl.1
      · exact hgl.2.1
      · exact hgl.2.2.1
      · exact hgl.2.2.2
    have hwi : IntKind.i64.wrap (gI q.n k) = gI q.n k := wrap_i64 (by have := hnb.1; omega) (by have := hnb.2; omega)
    have hb : gI q.n k ≠ (wOf ds k : Int) → byte (gI q.n k + 1) := fun c => ⟨by have := hnb.1; omega, by omega⟩
    clear hgl hwl
    generalize (wOf ds k : Int) = W at *
    by_cases c : gI q.n k = W
    · rw [if_neg (fun h => h.2 c)]
      rw [c] at hwi
      have hgn := gI_n q k h4
      rw [hgn] at c
      obtain ⟨a, b, c', e, F, t, me, fn, li⟩ := q
      simp only [qyC] at e1 c ⊢
      have h4 : k = 0 ∨ k = 1 ∨ k = 2 ∨ k = 3 := by omega
      rcases h4 with rfl | rfl | rfl | rfl <;> simp at c e1 e4 <;> subst c <;> simp [beqI, bneI, mm_min2, mm_max2, mm_min3, mm_max3, startE, lkE, lkX, lkE_rest, sx, substE, opVA, objs0, List.replicate, XA_seq, XA_region, XOA_go, goE_someA, opV, ev, putA, layAll, XOA_nil, XA_skip_seq, XA_skip_nil, XOA_gd, goG_tA, goG_uA, binV, bi_add, bi_sub, bi_mul, bi_quo, bi_rem, bi_eql, bi_neq, bi_lss, bi_leq, bi_gtr, bi_geq, bi_shl, bi_shr, bi_and, bi_or, bi_xor, unV, XA_ret_nil, XA_ret_cons, endFA_r, endFA_n, endTA_r, endTA_n, endRA_r, endRA_n, fltR, resultsA, resAs, resA, XA_block, XA_cond, pickX_t, pickX_f, pickX_b, XA_skip_blk, XA_skip_lp, XA_exit_seq, XA_exit_lp, XA_exit_blk, XA_exit_nil, load1, Ev.loadCells, objCells, bodyCells, setCells, AV.flat, AV.flat1, backR, backV, backCell, mapO, AV.cells, AV.atom, AV.tree, fillV, repeatL, treeCell, freezeAll, eqCells, callV_T, callV_F, passN, passV, passCell, srcCells, sliceBounds, hiB, loB, thenQ_nA, thenQ_xA, thenQ_rA, runK_nA, runK_xA, runK_rA, wrap_i64, wrap_u64, wrap_u32, wrap_u8, wrap_u16, e1, e4, hwr, hwr2, hwi, resQ, zeroQ, flatF_nil, qyC]
    · rw [if_pos ⟨trivial, c⟩]
      have hb := hb c
      have e3 := e3 _ hb
      have hw8 : IntKind.u8.wrap (gI q.n k + 1) = gI q.n k + 1 := wrap_u8 hb.1 (by have := hb.2; omega)
      have hgn := gI_n q k h4
      generalize toldQ ds m (q.setN k (gI q.n k + 1)) = Z at *
      rw [hgn] at c hwi hw8 e3
      obtain ⟨a, b, c', e, F, t, me, fn, li⟩ := q
      simp only [resQ] at e3 ⊢
      generalize Z.isSome = kk at *
      generalize Z.getD zeroQ = y at *
      obtain ⟨a2, b2, c2, e2', F2, t2, me2, fn2, li2⟩ := y
      simp only [qyC] at e1 e2 e3 ⊢
      clear hF hgp hq
      have h4 : k = 0 ∨ k = 1 ∨ k = 2 ∨ k = 3 := by omega
      rcases h4 with rfl | rfl | rfl | rfl <;> simp [Qy.setN] at c e1 e4 hwi hw8 e3 <;> simp [beqI, bneI, mm_min2, mm_max2, mm_min3, mm_max3, startE, lkE, lkX, lkE_rest, sx, substE, opVA, objs0, List.replicate, XA_seq, XA_region, XOA_go, goE_someA, opV, ev, putA, layAll, XOA_nil, XA_skip_seq, XA_skip_nil, XOA_gd, goG_tA, goG_uA, binV, bi_add, bi_sub, bi_mul, bi_quo, bi_rem, bi_eql, bi_neq, bi_lss, bi_leq, bi_gtr, bi_geq, bi_shl, bi_shr, bi_and, bi_or, bi_xor, unV, XA_ret_nil, XA_ret_cons, endFA_r, endFA_n, endTA_r, endTA_n, endRA_r, endRA_n, fltR, resultsA, resAs, resA, XA_block, XA_cond, pickX_t, pickX_f, pickX_b, XA_skip_blk, XA_skip_lp, XA_exit_seq, XA_exit_lp, XA_exit_blk, XA_exit_nil, load1, Ev.loadCells, objCells, bodyCells, setCells, AV.flat, AV.flat1, backR, backV, backCell, mapO, AV.cells, AV.atom, AV.tree, fillV, repeatL, treeCell, freezeAll, eqCells, callV_T, callV_F, passN, passV, passCell, srcCells, sliceBounds, hiB, loB, thenQ_nA, thenQ_xA, thenQ_rA, runK_nA, runK_xA, runK_rA, wrap_i64, wrap_u64, wrap_u32, wrap_u8, wrap_u16, e1, e2, e3, e4, hwr, hwr2, c, hwi, hw8]
end Go.Proofs.Ytambpbcdnhekbaa
