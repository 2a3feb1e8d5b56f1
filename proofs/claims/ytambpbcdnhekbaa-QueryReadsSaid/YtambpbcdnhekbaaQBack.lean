/- A query is read as it was written; a byte more, or fewer, is none; unlike ones are written unlike. -/
import Derived.Test.YtambpbcdnhekbaaQS
set_option linter.unusedSimpArgs false
set_option linter.unusedVariables false
set_option maxHeartbeats 16000000
set_option maxRecDepth 100000
namespace Go.Proofs.Ytambpbcdnhekbaa
open Go.Ev
def u8s (l : List Int) : List UInt8 := l.map fun n => UInt8.ofNat n.toNat
theorem u8s_eq {a b : List Int} (ha : okB a) (hb : okB b) : (u8s a == u8s b) = decide (a = b) := by
  have key : ∀ (a b : List Int), okB a → okB b → u8s a = u8s b → a = b := by
    intro a
    induction a with
    | nil => intro b _ _ h; cases b with
      | nil => rfl
      | cons x b => simp [u8s] at h
    | cons y a ih =>
      intro b ha hb h
      cases b with
      | nil => simp [u8s] at h
      | cons x b =>
        simp only [u8s, List.map_cons, List.cons.injEq] at h
        have hy := ha y (by simp)
        have hx := hb x (by simp)
        unfold byte at hx hy
        have h1 := congrArg UInt8.toNat h.1
        simp only [UInt8.toNat_ofNat'] at h1
        have : y = x := by omega
        rw [this, ih b (fun z hz => ha z (by simp [hz])) (fun z hz => hb z (by simp [hz])) h.2]
  by_cases h : a = b
  · subst h; simp
  · simp only [h, decide_false, beq_eq_false_iff_ne]
    exact fun c => h (key a b ha hb c)
theorem rng_bad {x : Int} : badN x = false ↔ rng x := by
  unfold badN rng LIM
  simp
theorem okT_iff {q : Qy} : okT q = true ↔ rngQ q := by
  unfold okT rngQ
  rw [Bool.not_eq_true', List.any_eq_false]
  constructor
  · intro h x hx
    exact rng_bad.1 ((Bool.not_eq_true _).mp (h x hx))
  · intro h x hx
    rw [rng_bad.2 (h x hx)]
    decide
theorem digU_rng {x : Int} (h : rng x) : digU x = digN x.toNat := by
  unfold rng LIM at h
  unfold digU
  rw [wrap_u64 h.1 (by omega)]
theorem bytesQ_eq {q : Qy} (h : rngQ q) : bytesQ q = q.n ++ putL (numsQ q) := by
  unfold bytesQ
  rw [if_pos (okT_iff.2 h)]
  congr 1
  unfold putL
  have key : ∀ l : List Int, (∀ x ∈ l, rng x) → l.flatMap digU = l.flatMap fun n => digN n.toNat := by
    intro l
    induction l with
    | nil => intro _; rfl
    | cons x l ih =>
      intro h
      rw [List.flatMap_cons, List.flatMap_cons, digU_rng (h x (by simp)), ih fun y hy => h y (by simp [hy])]
  exact key _ h
theorem putL_ok (l : List Int) : okB (putL l) := by
  intro x hx
  unfold putL at hx
  obtain ⟨n, _, h⟩ := List.mem_flatMap.1 hx
  exact digN_ok _ x h
theorem form_ok {q : Qy} (hq : okQ q) : okB (q.n ++ putL (numsQ q)) := by
  intro x hx
  rcases List.mem_append.1 hx with h | h
  · exact hq.n.2 x h
  · exact putL_ok _ x h
theorem bytesQ_ok {q : Qy} (hq : okQ q) : okB (bytesQ q) := by
  by_cases h : okT q = true
  · rw [bytesQ_eq (okT_iff.1 h)]; exact form_ok hq
  · unfold bytesQ; rw [if_neg h]; intro x hx; cases hx
theorem form_pre {p q : Qy} (hp : rngQ p) (hq : rngQ q) {r r2 : List Int} (h : p.n ++ putL (numsQ p) ++ r = q.n ++ putL (numsQ q) ++ r2) : p = q ∧ r = r2 := by
  have h4 : p.n = q.n := by
    have := congrArg (List.take 4) h
    simpa [Qy.n] using this
  rw [h4, List.append_assoc, List.append_assoc] at h
  have h5 := List.append_cancel_left h
  have e1 := body_full cnS_P (st := stS) rfl p hp r
  have e2 := body_full cnS_P (st := stS) rfl q hq r2
  rw [h5, e2] at e1
  simp only [Prod.mk.injEq, Qy.mk.injEq, true_and, and_true] at e1
  obtain ⟨⟨g1, g2, g3, g4, g5⟩, g6⟩ := e1
  refine ⟨?_, g6.symm⟩
  obtain ⟨a, b, c, e, F, t, me, fn, li⟩ := p
  obtain ⟨a', b', c', e', F', t', me', fn', li'⟩ := q
  simp only [Qy.n, List.cons.injEq, and_true] at h4 g1 g2 g3 g4 g5
  obtain ⟨rfl, rfl, rfl, rfl⟩ := h4
  subst g1 g2 g3 g4 g5
  rfl
theorem read_self {cn : RS → Int × RS} {st : Bool → Bool} (hc : CnP cn) (hst : st false = false) {q : Qy} (hq : okQ q) (h : rngQ q) : readQ cn st (bytesQ q) = some q := by
  rw [bytesQ_eq h]
  exact (read_iff hc hst (form_ok hq) q).2 ⟨h, rfl⟩
theorem read_more {cn : RS → Int × RS} {st : Bool → Bool} (hc : CnP cn) (hst : st false = false) {q : Qy} (hq : okQ q) (h : rngQ q) {r : List Int} (hr : okB r) (h0 : r ≠ []) : readQ cn st (bytesQ q ++ r) = none := by
  cases e : readQ cn st (bytesQ q ++ r) with
  | none => rfl
  | some p =>
    rw [bytesQ_eq h] at e
    obtain ⟨g1, g2⟩ := (read_iff hc hst (fun x hx => (List.mem_append.1 hx).elim (form_ok hq x) (hr x)) p).1 e
    rw [← List.append_nil (p.n ++ putL (numsQ p))] at g2
    exact absurd (form_pre h g1 g2).2 h0
theorem read_less {cn : RS → Int × RS} {st : Bool → Bool} (hc : CnP cn) (hst : st false = false) {q : Qy} (hq : okQ q) (h : rngQ q) {b r : List Int} (hb : bytesQ q = b ++ r) (h0 : r ≠ []) : readQ cn st b = none := by
  cases e : readQ cn st b with
  | none => rfl
  | some p =>
    have hok : okB b := fun x hx => bytesQ_ok hq x (by rw [hb]; simp [hx])
    obtain ⟨g1, g2⟩ := (read_iff hc hst hok p).1 e
    rw [bytesQ_eq h, g2, ← List.append_nil (q.n ++ putL (numsQ q))] at hb
    exact absurd (form_pre h g1 hb).2.symm h0
theorem bytesQ_len {q : Qy} (hL : lightQ q = true) (h : rngQ q) : 4 ≤ (bytesQ q).length ∧ (bytesQ q).length ≤ 10000 := by
  obtain ⟨h1, h2⟩ := light_parts hL
  have h3 := numsF_le h2
  have h4 : (numsQ q).length ≤ 700 := by
    unfold numsQ
    rw [List.length_cons, List.length_append]
    simp only [List.length_cons, List.length_nil]
    omega
  have h5 := flatU_len (numsQ q)
  unfold bytesQ
  rw [if_pos (okT_iff.2 h), List.length_append]
  have : q.n.length = 4 := rfl
  omega
theorem queryBack_ev (p q : Qy) (by_ : Int) (hp : okQ p) (hq : okQ q) (hy : byte by_) :
    cvF tab 5 [.agg (qyC p), .agg (qyC q), .int .u8 by_] = some (.bool true) := by
  refine cvFA_R (mf := Mf.f5) rfl rfl (by kernel_rfl) ?_
  simp only [Mf.f5]
  have e1 := lightQ_ev p hp
  have e2 := lightQ_ev q hq
  have e3 := qbytes_ev p
  have e4 := qbytes_ev q
  have hBp := @bytesQ_len p
  cases c1 : lightQ p with
  | false =>
    rw [c1] at e1
    clear e3 e4 hBp hp hq
    obtain ⟨a, b, c, e, F, t, me, fn, li⟩ := p
    obtain ⟨a', b', c', e', F', t', me', fn', li'⟩ := q
    simp only [qyC] at e1 ⊢
    simp [beqI, bneI, mm_min2, mm_max2, mm_min3, mm_max3, startE, lkE, lkX, lkE_rest, sx, substE, opVA, objs0, List.replicate, XA_seq, XA_region, XOA_go, goE_someA, opV, ev, putA, layAll, XOA_nil, XA_skip_seq, XA_skip_nil, XOA_gd, goG_tA, goG_uA, binV, bi_add, bi_sub, bi_mul, bi_quo, bi_rem, bi_eql, bi_neq, bi_lss, bi_leq, bi_gtr, bi_geq, bi_shl, bi_shr, bi_and, bi_or, bi_xor, unV, XA_ret_nil, XA_ret_cons, endFA_r, endFA_n, endTA_r, endTA_n, endRA_r, endRA_n, fltR, resultsA, resAs, resA, XA_block, XA_cond, pickX_t, pickX_f, pickX_b, XA_skip_blk, XA_skip_lp, XA_exit_seq, XA_exit_lp, XA_exit_blk, XA_exit_nil, load1, Ev.loadCells, objCells, bodyCells, setCells, AV.flat, AV.flat1, backR, backV, backCell, mapO, AV.cells, AV.atom, AV.tree, fillV, repeatL, treeCell, freezeAll, eqCells, callV_T, callV_F, passN, passV, passCell, srcCells, sliceBounds, hiB, loB, thenQ_nA, thenQ_xA, thenQ_rA, runK_nA, runK_xA, runK_rA, wrap_i64, wrap_u64, wrap_u32, wrap_u8, wrap_u16, e1, wakes_ev]
  | true =>
    rw [c1] at e1
    cases c2 : lightQ q with
    | false =>
      rw [c2] at e2
      clear e3 e4 hBp hp hq
      obtain ⟨a, b, c, e, F, t, me, fn, li⟩ := p
      obtain ⟨a', b', c', e', F', t', me', fn', li'⟩ := q
      simp only [qyC] at e1 e2 ⊢
      simp [beqI, bneI, mm_min2, mm_max2, mm_min3, mm_max3, startE, lkE, lkX, lkE_rest, sx, substE, opVA, objs0, List.replicate, XA_seq, XA_region, XOA_go, goE_someA, opV, ev, putA, layAll, XOA_nil, XA_skip_seq, XA_skip_nil, XOA_gd, goG_tA, goG_uA, binV, bi_add, bi_sub, bi_mul, bi_quo, bi_rem, bi_eql, bi_neq, bi_lss, bi_leq, bi_gtr, bi_geq, bi_shl, bi_shr, bi_and, bi_or, bi_xor, unV, XA_ret_nil, XA_ret_cons, endFA_r, endFA_n, endTA_r, endTA_n, endRA_r, endRA_n, fltR, resultsA, resAs, resA, XA_block, XA_cond, pickX_t, pickX_f, pickX_b, XA_skip_blk, XA_skip_lp, XA_exit_seq, XA_exit_lp, XA_exit_blk, XA_exit_nil, load1, Ev.loadCells, objCells, bodyCells, setCells, AV.flat, AV.flat1, backR, backV, backCell, mapO, AV.cells, AV.atom, AV.tree, fillV, repeatL, treeCell, freezeAll, eqCells, callV_T, callV_F, passN, passV, passCell, srcCells, sliceBounds, hiB, loB, thenQ_nA, thenQ_xA, thenQ_rA, runK_nA, runK_xA, runK_rA, wrap_i64, wrap_u64, wrap_u32, wrap_u8, wrap_u16, e1, e2, wakes_ev]
    | true =>
      rw [c2] at e2
      have e3 := e3 c1
      have e4 := e4 c2
      unfold textT at e3 e4
      cases kp : okT p with
      | false =>
        rw [kp] at e3
        simp only [Bool.false_eq_true, if_false] at e3
        have e4' : ∃ B bb, cvT tab 16 [.agg (qyC q)] = some (.tup [rB B, .bool bb]) := by
          rw [e4]; split
          · exact ⟨_, _, rfl⟩
          · exact ⟨_, _, rfl⟩
        obtain ⟨B, bb, e4'⟩ := e4'
        clear e4 hBp hp hq
        obtain ⟨a, b, c, e, F, t, me, fn, li⟩ := p
        obtain ⟨a', b', c', e', F', t', me', fn', li'⟩ := q
        simp [qyC, rB] at e1 e2 e3 e4'
        simp only [qyC]
        simp [beqI, bneI, mm_min2, mm_max2, mm_min3, mm_max3, startE, lkE, lkX, lkE_rest, sx, substE, opVA, objs0, List.replicate, XA_seq, XA_region, XOA_go, goE_someA, opV, ev, putA, layAll, XOA_nil, XA_skip_seq, XA_skip_nil, XOA_gd, goG_tA, goG_uA, binV, bi_add, bi_sub, bi_mul, bi_quo, bi_rem, bi_eql, bi_neq, bi_lss, bi_leq, bi_gtr, bi_geq, bi_shl, bi_shr, bi_and, bi_or, bi_xor, unV, XA_ret_nil, XA_ret_cons, endFA_r, endFA_n, endTA_r, endTA_n, endRA_r, endRA_n, fltR, resultsA, resAs, resA, XA_block, XA_cond, pickX_t, pickX_f, pickX_b, XA_skip_blk, XA_skip_lp, XA_exit_seq, XA_exit_lp, XA_exit_blk, XA_exit_nil, load1, Ev.loadCells, objCells, bodyCells, setCells, AV.flat, AV.flat1, backR, backV, backCell, mapO, AV.cells, AV.atom, AV.tree, fillV, repeatL, treeCell, freezeAll, eqCells, callV_T, callV_F, passN, passV, passCell, srcCells, sliceBounds, hiB, loB, thenQ_nA, thenQ_xA, thenQ_rA, runK_nA, runK_xA, runK_rA, wrap_i64, wrap_u64, wrap_u32, wrap_u8, wrap_u16, e1, e2, e3, e4', wakes_ev]
      | true =>
        rw [kp] at e3
        simp only [if_true] at e3
        have rp := okT_iff.1 kp
        have hl := hBp c1 rp
        have hok := bytesQ_ok hp
        have e5 := qRead_ev (bytesQ p) ⟨hok, by simp only; omega⟩
        rw [read_self cnS_P rfl hp rp] at e5
        have hyb : okB [by_] := fun x hx => by simp at hx; rw [hx]; exact hy
        have e6 := qRead_ev (bytesQ p ++ [by_]) ⟨fun x hx => (List.mem_append.1 hx).elim (hok x) (hyb x), by simp only [List.length_append, List.length_cons, List.length_nil]; omega⟩
        rw [read_more cnS_P rfl hp rp hyb (by simp)] at e6
        have hk : (bytesQ p).take ((bytesQ p).length - 1) ++ (bytesQ p).drop ((bytesQ p).length - 1) = bytesQ p := List.take_append_drop ..
        have e7 := qRead_ev ((bytesQ p).take ((bytesQ p).length - 1)) ⟨fun x hx => hok x (List.mem_of_mem_take hx), by simp only [List.length_take]; omega⟩
        rw [read_less cnS_P rfl hp rp hk.symm (by intro h; have := congrArg List.length h; simp at this; omega)] at e7
        have e8 := rqsame_ev p p hp
        rw [decide_eq_true rfl] at e8
        have e9 := rqsame_ev p q hp
        have hs := u8s_eq hok (bytesQ_ok hq)
        have hsame : (okT q && decide (bytesQ p = bytesQ q)) = decide (p = q) := by
          by_cases hpq : p = q
          · subst hpq; simp [kp]
          · rw [decide_eq_false hpq]
            cases kq : okT q with
            | false => rfl
            | true =>
              rw [Bool.true_and, decide_eq_false]
              intro h
              rw [bytesQ_eq rp, bytesQ_eq (okT_iff.1 kq), ← List.append_nil (p.n ++ putL (numsQ p)), ← List.append_nil (q.n ++ putL (numsQ q))] at h
              exact hpq (form_pre rp (okT_iff.1 kq) h).1
        have b1 := bytesOf_map (bytesQ p)
        have b2 := bytesOf_map (bytesQ q)
        rw [show ((bytesQ p).map fun n => UInt8.ofNat n.toNat) = u8s (bytesQ p) from rfl] at b1
        rw [show ((bytesQ q).map fun n => UInt8.ofNat n.toNat) = u8s (bytesQ q) from rfl] at b2
        have hnil : okT q = false → bytesQ q = [] := fun h => by unfold bytesQ; rw [h]; rfl
        clear hk hyb
        generalize bytesQ p = B at *
        generalize bytesQ q = B2 at *
        generalize decide (p = q) = S at *
        obtain ⟨k, hk⟩ : ∃ k, B.length = k + 1 := ⟨B.length - 1, by omega⟩
        rw [hk] at e7
        have hlt : (B.take (k + 1 - 1)).length = k := by rw [List.length_take]; omega
        simp only [rB, hlt] at e3 e4 e5 e6 e7
        simp only [List.length_append, List.map_append, List.map_take, List.map_cons, List.map_nil, List.length_cons, List.length_nil, hk] at e3 e4 e5 e6 e7
        have hml : (B.map (AV.int .u8)).length = k + 1 := by rw [List.length_map, hk]
        generalize hM : B.map (AV.int .u8) = M at *
        have w1 : IntKind.i64.wrap (((k + 1 : Nat) : Int) - 1) = (k : Int) := by rw [wrap_i64 (by omega) (by omega)]; omega
        have q1 : ¬ ((k + 1 : Nat) : Int) < 4 := by omega
        have q2 : k + 1 ≤ 140737488355328 := by omega
        have q3 : k + 1 < 4611686018427387904 := by omega
        have q4 : k + 1 + 1 ≤ 140737488355328 := by omega
        have q5 : k + 1 + 1 < 4611686018427387904 := by omega
        have q6 : (k : Int) ≤ ((k + 1 : Nat) : Int) := by omega
        have q7 : List.take (k + 1 + 1) (M ++ [AV.int .u8 by_]) = M ++ [AV.int .u8 by_] := List.take_of_length_le (by simp; omega)
        have q8 : M.all AV.tree = true := by rw [← hM]; simp [AV.tree]
        clear hBp hp hq rp kp
        generalize okT q = bq at *
        obtain ⟨a, b, c, e, F, t, me, fn, li⟩ := p
        obtain ⟨a', b', c', e', F', t', me', fn', li'⟩ := q
        simp [resQ, zeroQ, qyC, flatF_nil] at e5 e6 e7
        simp only [qyC] at e1 e2 e3 e4 e8 e9 ⊢
        simp at w1 q1 q6
        cases bq with
        | true =>
          simp only [if_true, Bool.true_and] at e4 hsame
          rw [hsame] at hs
          simp [beqI, bneI, mm_min2, mm_max2, mm_min3, mm_max3, startE, lkE, lkX, lkE_rest, sx, substE, opVA, objs0, List.replicate, XA_seq, XA_region, XOA_go, goE_someA, opV, ev, putA, layAll, XOA_nil, XA_skip_seq, XA_skip_nil, XOA_gd, goG_tA, goG_uA, binV, bi_add, bi_sub, bi_mul, bi_quo, bi_rem, bi_eql, bi_neq, bi_lss, bi_leq, bi_gtr, bi_geq, bi_shl, bi_shr, bi_and, bi_or, bi_xor, unV, XA_ret_nil, XA_ret_cons, endFA_r, endFA_n, endTA_r, endTA_n, endRA_r, endRA_n, fltR, resultsA, resAs, resA, XA_block, XA_cond, pickX_t, pickX_f, pickX_b, XA_skip_blk, XA_skip_lp, XA_exit_seq, XA_exit_lp, XA_exit_blk, XA_exit_nil, load1, Ev.loadCells, objCells, bodyCells, setCells, AV.flat, AV.flat1, backR, backV, backCell, mapO, AV.cells, AV.atom, AV.tree, fillV, repeatL, treeCell, freezeAll, eqCells, callV_T, callV_F, passN, passV, passCell, srcCells, sliceBounds, hiB, loB, thenQ_nA, thenQ_xA, thenQ_rA, runK_nA, runK_xA, runK_rA, wrap_i64, wrap_u64, wrap_u32, wrap_u8, wrap_u16, e1, e2, e3, e4, e5, e6, e7, e8, e9, wakes_ev, w1, q1, q2, q3, q4, q5, q6, q7, q8, hml, b1, b2, hs]
        | false =>
          simp only [Bool.false_and] at hsame
          subst hsame
          simp at e4
          simp [beqI, bneI, mm_min2, mm_max2, mm_min3, mm_max3, startE, lkE, lkX, lkE_rest, sx, substE, opVA, objs0, List.replicate, XA_seq, XA_region, XOA_go, goE_someA, opV, ev, putA, layAll, XOA_nil, XA_skip_seq, XA_skip_nil, XOA_gd, goG_tA, goG_uA, binV, bi_add, bi_sub, bi_mul, bi_quo, bi_rem, bi_eql, bi_neq, bi_lss, bi_leq, bi_gtr, bi_geq, bi_shl, bi_shr, bi_and, bi_or, bi_xor, unV, XA_ret_nil, XA_ret_cons, endFA_r, endFA_n, endTA_r, endTA_n, endRA_r, endRA_n, fltR, resultsA, resAs, resA, XA_block, XA_cond, pickX_t, pickX_f, pickX_b, XA_skip_blk, XA_skip_lp, XA_exit_seq, XA_exit_lp, XA_exit_blk, XA_exit_nil, load1, Ev.loadCells, objCells, bodyCells, setCells, AV.flat, AV.flat1, backR, backV, backCell, mapO, AV.cells, AV.atom, AV.tree, fillV, repeatL, treeCell, freezeAll, eqCells, callV_T, callV_F, passN, passV, passCell, srcCells, sliceBounds, hiB, loB, thenQ_nA, thenQ_xA, thenQ_rA, runK_nA, runK_xA, runK_rA, wrap_i64, wrap_u64, wrap_u32, wrap_u8, wrap_u16, e1, e2, e3, e4, e5, e6, e7, e8, e9, wakes_ev, w1, q1, q2, q3, q4, q5, q6, q7, q8, hml, b1, b2]
theorem queryBack_law (l : List AV) (h : RDargs [gQy, gQy, .int .u8] l) : ∃ H1, cfT tab 5 l [] = some (.bool true, H1) := by
  obtain ⟨x, r, rfl, hx, y, r, rfl, hy, t, r, rfl, ht, rfl⟩ := h
  obtain ⟨p, rfl, hp⟩ := rdarg_qy hx
  obtain ⟨q, rfl, hq⟩ := rdarg_qy hy
  obtain ⟨n, rfl, hn⟩ := rdarg_u8 ht
  exact cvF_bool (queryBack_ev p q n hp hq hn)
theorem queryBack_lifted (os : Os) (started : os.Started) (H : Type) (enc : TypeId × Value → H) :
    ReturnsInHanded {} Try.checked os 5 .any (Rows.queryBackSpec.pre6 enc Try.prog Try.f5 Rows.queryBackRow.domain false) (Rows.queryBackSpec.post enc Try.prog Try.f5 false true false false) := by
  refine returnsInHanded_of_change (C := Try.checked) Try.own started (by kernel_rfl) Try.func5
    (ChangeSpec.witness6 (enc := enc) (C := Try.checked) false ⟨#[], #[.agg #[.int .u8 0, .int .u8 0, .int .u8 0, .int .u8 0, .slice none 0 0, .int .i64 0, .int .i64 0, .int .i64 0, .int .i64 0] , .agg #[.int .u8 0, .int .u8 0, .int .u8 0, .int .u8 0, .slice none 0 0, .int .i64 0, .int .i64 0, .int .i64 0, .int .i64 0] , .int .u8 0], []⟩ 8 (by kernel_rfl) (by kernel_rfl) (by kernel_rfl) (by kernel_rfl)) ?_
  intro W base args ds gs before hval hW hcnd _
  have hval' : ∀ (j : Nat) (t : TypeId) (v : Value), Try.f5.params.toList[j]? = some t → args[j]? = some v → Value.okWide Try.prog W .any base t v := fun j t v h1 h2 => hval j t v (by simpa using h1) h2
  obtain ⟨p, q, hA, hV, hpq, _, _⟩ := id hW
  have hg : gtsB Try.prog [gQy, gQy, .int .u8] Try.f5.params.toList = true := by kernel_rfl
  refine (law_calls' tab_ok hg queryBack_law hval' hA).mono fun e W' ⟨he, hb⟩ => ?_
  subst he
  refine ⟨_, rfl, post_true Try.laidOut (rt := 4) (fun ds h => ?_) rfl (by kernel_rfl) (by kernel_rfl) (by kernel_rfl) hW hb⟩
  match ds, h with
  | [_, _, _], _ => rfl
theorem queryBack_holds : Rows.QueryBackSaid :=
  OpenClaim.holds_of_wide 5 Try.f5 rfl rfl rfl rfl rfl rfl rfl ⟨rfl, rfl, rfl, rfl, rfl⟩ rfl rfl rfl rfl rfl (by kernel_rfl) Try.func5 (by kernel_rfl)
    (of_decide_eq_true (by kernel_rfl)) (by unfold Func.isWrapper; first | (rw [if_pos (by decide +kernel)]; kernel_rfl) | (rw [if_neg (by decide +kernel)]; exact ⟨rfl, rfl⟩))
    (fun os started H enc _ => queryBack_lifted os started H enc)
end Go.Proofs.Ytambpbcdnhekbaa
