/- Without a node that does not answer the same one answers; without the one that does, none that is cheaper. -/
import Derived.Test.YtaflkcaebecpfaaRouPick
set_option linter.unusedSimpArgs false
set_option linter.unusedVariables false
set_option maxHeartbeats 8000000
set_option maxRecDepth 100000
namespace Go.Proofs.Ytaflkcaebecpfaa
open Go.Ev
def lessN (l : List (List Int)) (k : Nat) : List (List Int) := l.take k ++ l.drop (k + 1)
def upI (k q : Nat) : Nat := if q < k then q else q + 1
theorem lessN_len {l : List (List Int)} {k : Nat} (hk : k < l.length) : (lessN l k).length = k + (l.length - (k + 1)) := by
  unfold lessN
  rw [List.length_append, List.length_take, List.length_drop]
  omega
theorem lessN_at {l : List (List Int)} {k : Nat} (hk : k < l.length) {q : Nat} (hq : q < (lessN l k).length) : gR (lessN l k) q = gR l (upI k q) ∧ upI k q < l.length ∧ upI k q ≠ k := by
  have hlen := lessN_len hk
  unfold upI
  by_cases c : q < k
  · rw [if_pos c]
    refine ⟨?_, by omega, by omega⟩
    unfold gR lessN
    rw [List.getD_eq_getElem?_getD, List.getD_eq_getElem?_getD, List.getElem?_append_left (by rw [List.length_take]; omega), List.getElem?_take, if_pos c]
  · rw [if_neg c]
    refine ⟨?_, by omega, by omega⟩
    unfold gR lessN
    rw [List.getD_eq_getElem?_getD, List.getD_eq_getElem?_getD, List.getElem?_append_right (by rw [List.length_take]; omega), List.getElem?_drop, List.length_take]
    congr 2
    omega
theorem lessN_ok {l : List (List Int)} (hl : okNs l) (k : Nat) : okNs (lessN l k) := fun v hv => (List.mem_append.1 hv).elim (fun h => hl v (List.mem_of_mem_take h)) (fun h => hl v (List.mem_of_mem_drop h))
theorem lessN_good {ds : List Dm} {m : Int} {l : List (List Int)} (g : goodR ds m l = true) {k : Nat} (hk : k < l.length) (hz : gR l k ≠ zero4) : goodR ds m (lessN l k) = true := by
  obtain ⟨h1, h2, h3, h4, h5, h6⟩ := goodR_at g
  have hlen := lessN_len hk
  have hsub : List.Sublist (lessN l k) l := by
    conv => rhs; rw [← List.take_append_drop k l]
    unfold lessN
    refine List.Sublist.append (List.Sublist.refl _) ?_
    rw [List.drop_eq_getElem_cons hk]
    exact List.sublist_cons_self _ _
  have hzm : zero4 ∈ lessN l k := by
    rw [← List.take_append_drop k l, List.drop_eq_getElem_cons hk, ← gR_get l k hk] at h6
    unfold lessN
    rcases List.mem_append.1 h6 with h | h
    · exact List.mem_append.2 (.inl h)
    · rcases List.mem_cons.1 h with h | h
      · exact absurd h.symm hz
      · exact List.mem_append.2 (.inr h)
  have hpos : 1 ≤ (lessN l k).length := List.length_pos_of_mem hzm
  have hall : (lessN l k).all (goodN ds m) = true := List.all_eq_true.2 fun v hv => by
    obtain ⟨i, hi, e⟩ := idx_of (hsub.subset hv)
    rw [← e]; exact h4 i hi
  have h12 : (lessN l k).length ≤ 12 := by omega
  unfold goodR
  rw [h1, hall, decide_eq_true hpos, decide_eq_true h12, decide_eq_true (h5.sublist hsub), decide_eq_true hzm]
  rfl
/-- Without another node the same one answers; without itself none that is cheaper. -/
theorem lessN_best {ds : List Dm} {m : Int} {l : List (List Int)} (g : goodR ds m l = true) (hl : okNs l) {need : List Int} (hn : okN need) {k p : Nat} (hk : k < l.length) (hz : gR l k ≠ zero4)
    (hp : p < l.length) (hpb : belowN (gR l p) need = true) (hpa : ∀ j, j < l.length → belowN (gR l j) need = true → costC ds m (gR l p) ≤ costC ds m (gR l j) ∧ (costC ds m (gR l j) = costC ds m (gR l p) → p ≤ j)) :
    ∃ q : Nat, bestN ds m (lessN l k) (-1) need = q ∧ q < (lessN l k).length ∧ (k ≠ p → gR (lessN l k) q = gR l p) ∧ costC ds m (gR l p) ≤ costC ds m (gR (lessN l k) q) := by
  obtain ⟨q, h1, h2, h3, h4⟩ := best_is (lessN_good g hk hz) (lessN_ok hl k) hn
  obtain ⟨e1, e2, e3⟩ := lessN_at hk h2
  rw [e1] at h3 h4
  have h5 := hpa _ e2 h3
  refine ⟨q, h1, h2, fun hkp => ?_, by rw [e1]; exact h5.1⟩
  rw [e1]
  have hlen := lessN_len hk
  obtain ⟨p', hp', hp2⟩ : ∃ p', p' < (lessN l k).length ∧ upI k p' = p := by
    by_cases c : p < k
    · exact ⟨p, by omega, by unfold upI; rw [if_pos c]⟩
    · exact ⟨p - 1, by omega, by unfold upI; rw [if_neg (by omega)]; omega⟩
  obtain ⟨f1, f2, f3⟩ := lessN_at hk hp'
  have h6 := h4 p' hp' (by rw [f1, hp2]; exact hpb)
  rw [f1, hp2] at h6
  have hc : costC ds m (gR l (upI k q)) = costC ds m (gR l p) := by omega
  have h7 := h5.2 hc
  have h8 := h6.2 hc.symm
  have : upI k q = p := by
    unfold upI at *
    split at hp2 <;> split at h7 <;> split <;> omega
  rw [this]
theorem flatN_drop (l : List (List Int)) (h : okNs l) (i : Nat) : (flatN l).drop (i * 4) = flatN (l.drop i) := by
  by_cases hi : i ≤ l.length
  · conv => lhs; rw [← List.take_append_drop i l]
    rw [flatN_append, List.drop_append_of_le_length (by rw [flatN_len (h.take i).len, List.length_take]; omega), List.drop_of_length_le (by rw [flatN_len (h.take i).len, List.length_take]; omega)]
    rfl
  · rw [List.drop_of_length_le (by rw [flatN_len h.len]; omega), List.drop_of_length_le (by omega)]
    rfl
theorem flatN_tree {l : List (List Int)} : (flatN l).all AV.tree = true := by
  refine List.all_eq_true.2 fun x hx => ?_
  induction l with
  | nil => cases hx
  | cons v l ih =>
    simp only [flatN, List.mem_append] at hx
    rcases hx with h | h
    · obtain ⟨z, _, rfl⟩ := List.mem_map.1 h; rfl
    · exact ih h
theorem routeLess_ev (ds : List Dm) (m : Int) (l : List (List Int)) (need : List Int) (hC : okC ds) (hl : okNs l) (hn : okN need) :
    cvF tab 7 [.agg [.ro ds.length (flatD ds), .int .i64 m], rN l, .agg (need.map (.int .u8))] = some (.bool true) := by
  refine cvFA_R (mf := Mf.f7) rfl rfl (by kernel_rfl) ?_
  simp only [Mf.f7]
  have e1 := lightCat_ev ds m
  have e2 := rrogood_ev ds m l hC hl
  have e3 := rGood_ev ds m need hC hn
  have e4 := pick_ev ds m l need hC hl hn
  have hneed := four hn
  cases gl : lightC ds with
  | false =>
    rw [gl] at e1
    obtain ⟨a, b, c, d, rfl, _, _, _, _⟩ := hneed
    simp [beqI, bneI, mm_min2, mm_max2, mm_min3, mm_max3, startE, lkE, lkX, lkE_rest, sx, substE, opVA, objs0, List.replicate, XA_seq, XA_region, XOA_go, goE_someA, opV, ev, putA, layAll, XOA_nil, XA_skip_seq, XA_skip_nil, XOA_gd, goG_tA, goG_uA, binV, binInt, unV, XA_ret_nil, XA_ret_cons, endFA_r, endFA_n, endTA_r, endTA_n, endRA_r, endRA_n, fltR, resultsA, resAs, resA, XA_block, XA_cond, pickX_t, pickX_f, pickX_b, XA_skip_blk, XA_skip_lp, XA_exit_seq, XA_exit_lp, XA_exit_blk, XA_exit_nil, load1, Ev.loadCells, objCells, bodyCells, setCells, AV.flat, AV.flat1, backR, backV, backCell, mapO, AV.cells, AV.atom, AV.tree, fillV, repeatL, treeCell, freezeAll, eqCells, callV_T, callV_F, passN, passV, passCell, srcCells, sliceBounds, hiB, loB, thenQ_nA, thenQ_xA, thenQ_rA, runK_nA, runK_xA, runK_rA, wrap_i64, wrap_u64, wrap_u32, wrap_u8, wrap_u16, e1, wakes_ev]
  | true =>
    rw [gl] at e1
    cases g : goodR ds m l with
    | false =>
      rw [g] at e2
      obtain ⟨a, b, c, d, rfl, _, _, _, _⟩ := hneed
      simp only [rN] at e2
      simp [beqI, bneI, mm_min2, mm_max2, mm_min3, mm_max3, startE, lkE, lkX, lkE_rest, sx, substE, opVA, objs0, List.replicate, XA_seq, XA_region, XOA_go, goE_someA, opV, ev, putA, layAll, XOA_nil, XA_skip_seq, XA_skip_nil, XOA_gd, goG_tA, goG_uA, binV, binInt, unV, XA_ret_nil, XA_ret_cons, endFA_r, endFA_n, endTA_r, endTA_n, endRA_r, endRA_n, fltR, resultsA, resAs, resA, XA_block, XA_cond, pickX_t, pickX_f, pickX_b, XA_skip_blk, XA_skip_lp, XA_exit_seq, XA_exit_lp, XA_exit_blk, XA_exit_nil, load1, Ev.loadCells, objCells, bodyCells, setCells, AV.flat, AV.flat1, backR, backV, backCell, mapO, AV.cells, AV.atom, AV.tree, fillV, repeatL, treeCell, freezeAll, eqCells, callV_T, callV_F, passN, passV, passCell, srcCells, sliceBounds, hiB, loB, thenQ_nA, thenQ_xA, thenQ_rA, runK_nA, runK_xA, runK_rA, wrap_i64, wrap_u64, wrap_u32, wrap_u8, wrap_u16, rN, e1, e2, wakes_ev]
    | true =>
      rw [g] at e2 e4
      cases gn : goodN ds m need with
      | false =>
        rw [gn] at e3
        obtain ⟨a, b, c, d, rfl, _, _, _, _⟩ := hneed
        simp only [rN, List.map_cons, List.map_nil] at e2 e3
        simp [beqI, bneI, mm_min2, mm_max2, mm_min3, mm_max3, startE, lkE, lkX, lkE_rest, sx, substE, opVA, objs0, List.replicate, XA_seq, XA_region, XOA_go, goE_someA, opV, ev, putA, layAll, XOA_nil, XA_skip_seq, XA_skip_nil, XOA_gd, goG_tA, goG_uA, binV, binInt, unV, XA_ret_nil, XA_ret_cons, endFA_r, endFA_n, endTA_r, endTA_n, endRA_r, endRA_n, fltR, resultsA, resAs, resA, XA_block, XA_cond, pickX_t, pickX_f, pickX_b, XA_skip_blk, XA_skip_lp, XA_exit_seq, XA_exit_lp, XA_exit_blk, XA_exit_nil, load1, Ev.loadCells, objCells, bodyCells, setCells, AV.flat, AV.flat1, backR, backV, backCell, mapO, AV.cells, AV.atom, AV.tree, fillV, repeatL, treeCell, freezeAll, eqCells, callV_T, callV_F, passN, passV, passCell, srcCells, sliceBounds, hiB, loB, thenQ_nA, thenQ_xA, thenQ_rA, runK_nA, runK_xA, runK_rA, wrap_i64, wrap_u64, wrap_u32, wrap_u8, wrap_u16, rN, e1, e2, e3, wakes_ev]
      | true =>
        rw [gn] at e3 e4
        simp only [and_self, if_true] at e4
        obtain ⟨p, hp, hpl, hpb, hpa⟩ := best_is g hl hn
        rw [hp] at e4
        have h12 := (goodR_at g).2.2.1
        have hpl' : (p : Int) < l.length := by omega
        have hpl2 : ¬ (l.length : Int) ≤ (p : Int) := by omega
        have hp0 : (0 : Int) ≤ (p : Int) := by omega
        have hpn : ¬ (p : Int) < 0 := by omega
        have hdp := dropV hl hpl
        have e6 := rcost_ev ds m (gR l p) hC (hl.at hpl)
        have hLess : ∀ k, k < l.length → gR l k ≠ zero4 → ∃ q : Nat, cvF tab 17 [.agg [.ro ds.length (flatD ds), .int .i64 m], rN (lessN l k), .agg (need.map (.int .u8))] = some (.int .i64 q) ∧ q < (lessN l k).length ∧ (k ≠ p → gR (lessN l k) q = gR l p) ∧ costC ds m (gR l p) ≤ costC ds m (gR (lessN l k) q) := fun k hk hz => by
          obtain ⟨q, h1, h2, h3, h4⟩ := lessN_best g hl hn hk hz hpl hpb hpa
          have := pick_ev ds m (lessN l k) need hC (lessN_ok hl k) hn
          rw [lessN_good g hk hz, gn, h1] at this
          simp only [and_self, if_true] at this
          exact ⟨q, this, h2, h3, h4⟩
        have hfl := flatN_len hl.len
        obtain ⟨p0, p1, p2, p3, hpv, _, _, _, _⟩ := four (hl.at hpl)
        rw [hpv] at hdp e6
        obtain ⟨a, b, c, d, hv, _, _, _, _⟩ := hneed
        rw [hv] at e3 e4 hLess
        simp only [rN, List.map_cons, List.map_nil, List.cons_append, List.nil_append] at e2 e3 e4 e6 hdp hLess
        rw [hv]
        simp [beqI, bneI, mm_min2, mm_max2, mm_min3, mm_max3, startE, lkE, lkX, lkE_rest, sx, substE, opVA, objs0, List.replicate, XA_seq, XA_region, XOA_go, goE_someA, opV, ev, putA, layAll, XOA_nil, XA_skip_seq, XA_skip_nil, XOA_gd, goG_tA, goG_uA, binV, binInt, unV, XA_ret_nil, XA_ret_cons, endFA_r, endFA_n, endTA_r, endTA_n, endRA_r, endRA_n, fltR, resultsA, resAs, resA, XA_block, XA_cond, pickX_t, pickX_f, pickX_b, XA_skip_blk, XA_skip_lp, XA_exit_seq, XA_exit_lp, XA_exit_blk, XA_exit_nil, load1, Ev.loadCells, objCells, bodyCells, setCells, AV.flat, AV.flat1, backR, backV, backCell, mapO, AV.cells, AV.atom, AV.tree, fillV, repeatL, treeCell, freezeAll, eqCells, callV_T, callV_F, passN, passV, passCell, srcCells, sliceBounds, hiB, loB, thenQ_nA, thenQ_xA, thenQ_rA, runK_nA, runK_xA, runK_rA, wrap_i64, wrap_u64, wrap_u32, wrap_u8, wrap_u16, rN, e1, e2, e3, e4, hpl', hpl2, hp0, hpn]
        refine XA_for (fun k => ⟨[(1, .ro l.length (flatN l)), (3, .ptr 0 0 0), (5, .ptr 1 0 0), (7, .int .i64 p), (8, .int .i64 k)], [⟨0, .var [.ro ds.length (flatD ds), .int .i64 m]⟩, ⟨0, .var [.int .u8 a, .int .u8 b, .int .u8 c, .int .u8 d]⟩, ⟨0, .none⟩]⟩)
          (fun _ => True) l.length 0 (by omega) (by simp [AV.atom, normA, lkE, fixObjs, fixBody, fixV, fixCell]) trivial ?_ ?_
        · intro k _ hk _
          have hk' : (k : Int) < l.length := by omega
          have hdk := dropV hl hk
          have hw := wrap_succ k l.length hk (by omega)
          have hLk := hLess k hk
          obtain ⟨KV, hKV⟩ : ∃ KV, gR l k = KV := ⟨_, rfl⟩
          obtain ⟨k0, k1, k2, k3, hkv, _, _, _, _⟩ := four (hl.at hk)
          have he := eqN4 k0 k1 k2 k3 0 0 0 0
          have hkz : gR l k = zero4 ↔ [k0, k1, k2, k3] = [0, 0, 0, 0] := by rw [hkv]; rfl
          rw [hkv] at hdk
          simp only [List.map_cons, List.map_nil, List.cons_append, List.nil_append] at hdk
          by_cases hz : [k0, k1, k2, k3] = [0, 0, 0, 0]
          · rw [decide_eq_true hz] at he
            simp [beqI, bneI, mm_min2, mm_max2, mm_min3, mm_max3, startE, lkE, lkX, lkE_rest, sx, substE, opVA, objs0, List.replicate, XA_seq, XA_region, XOA_go, goE_someA, opV, ev, putA, layAll, XOA_nil, XA_skip_seq, XA_skip_nil, XOA_gd, goG_tA, goG_uA, binV, binInt, unV, XA_ret_nil, XA_ret_cons, endFA_r, endFA_n, endTA_r, endTA_n, endRA_r, endRA_n, fltR, resultsA, resAs, resA, XA_block, XA_cond, pickX_t, pickX_f, pickX_b, XA_skip_blk, XA_skip_lp, XA_exit_seq, XA_exit_lp, XA_exit_blk, XA_exit_nil, load1, Ev.loadCells, objCells, bodyCells, setCells, AV.flat, AV.flat1, backR, backV, backCell, mapO, AV.cells, AV.atom, AV.tree, fillV, repeatL, treeCell, freezeAll, eqCells, callV_T, callV_F, passN, passV, passCell, srcCells, sliceBounds, hiB, loB, thenQ_nA, thenQ_xA, thenQ_rA, runK_nA, runK_xA, runK_rA, wrap_i64, wrap_u64, wrap_u32, wrap_u8, wrap_u16, AV.atom, normA, lkE, fixObjs, fixBody, fixV, fixCell, hk', hdk, he, hw]
          · obtain ⟨q, f3, hq, hqs, hqc⟩ := hLk (fun h => hz (hkz.1 h))
            rw [decide_eq_false hz] at he
            have hlen := lessN_len hk
            have hdq := dropV (lessN_ok hl k) hq
            have f4 := rcost_ev ds m (gR (lessN l k) q) hC ((lessN_ok hl k).at hq)
            have hqo := hq
            have hF : flatN (lessN l k) = (flatN l).take (k * 4) ++ (flatN l).drop ((k + 1) * 4) := by
              unfold lessN; rw [flatN_append, flatN_take l hl, flatN_drop l hl]
            have htr := @flatN_tree (lessN l k)
            have hFl := flatN_len (lessN_ok hl k).len
            rw [hF] at hdq f3 htr hFl
            rw [hlen] at f3 hq hFl
            have m1 : ((flatN l).take (k * 4)).length = k * 4 := by rw [List.length_take, hfl]; omega
            have m2 : List.take ((l.length - (k + 1)) * 4) ((flatN l).drop ((k + 1) * 4)) = (flatN l).drop ((k + 1) * 4) := List.take_of_length_le (by rw [List.length_drop, hfl]; omega)
            have m3 : ((flatN l).drop ((k + 1) * 4)).length = (l.length - (k + 1)) * 4 := by rw [List.length_drop, hfl]; omega
            have t1 : ((flatN l).take (k * 4)).all AV.tree = true := List.all_eq_true.2 fun x hx => List.all_eq_true.1 (@flatN_tree l) x (List.mem_of_mem_take hx)
            have t2 : ((flatN l).drop ((k + 1) * 4)).all AV.tree = true := List.all_eq_true.2 fun x hx => List.all_eq_true.1 (@flatN_tree l) x (List.mem_of_mem_drop hx)
            obtain ⟨F1, hF1⟩ : ∃ F, (flatN l).take (k * 4) = F := ⟨_, rfl⟩
            obtain ⟨F2, hF2⟩ : ∃ F, (flatN l).drop ((k + 1) * 4) = F := ⟨_, rfl⟩
            rw [hF1] at m1 t1
            rw [hF2] at m2 m3 t2
            rw [hF1, hF2] at hdq f3 htr hFl
            generalize costC ds m (gR (lessN l k) q) = CQ at *
            rw [hpv] at hqc
            generalize costC ds m [p0, p1, p2, p3] = CP at *
            obtain ⟨q0, q1, q2, q3, hqv, _, _, _, _⟩ := four ((lessN_ok hl k).at hqo)
            rw [hqv] at hdq f4 hqs
            rw [hpv] at hqs
            have heq := eqN4 q0 q1 q2 q3 p0 p1 p2 p3
            simp only [List.map_cons, List.map_nil, List.cons_append, List.nil_append] at hdq f4
            have hkN : (k : Int) ≤ l.length := by omega
            have hk0 : (0 : Int) ≤ (k : Int) := by omega
            have hk1 : (k : Int) + 1 ≤ l.length := by omega
            have hk2 : (0 : Int) ≤ (k : Int) + 1 := by omega
            obtain ⟨r, hr⟩ : ∃ r, l.length - (k + 1) = r := ⟨_, rfl⟩
            rw [hr] at f3 m2 m3 hFl hq
            have n1 : k * 4 ≤ 140737488355328 := by omega
            have n2 : k < 4611686018427387904 := by omega
            have n3 : (k + r) * 4 ≤ 140737488355328 := by omega
            have n4 : k + r < 4611686018427387904 := by omega
            have n5 : List.take ((k + r) * 4) (F1 ++ F2) = F1 ++ F2 := List.take_of_length_le (by rw [hFl]; omega)
            have n6 : (k + r) * 4 ≤ k * 4 + r * 4 := by omega
            have n7 : q * 4 + 4 ≤ k * 4 + r * 4 := by omega
            have hqn : ¬ (q : Int) < 0 := by omega
            have hq0 : (0 : Int) ≤ (q : Int) := by omega
            have hq1 : ¬ (k : Int) + (r : Int) ≤ (q : Int) := by omega
            have hq2 : (q : Int) < (k : Int) + (r : Int) := by omega
            have hcc : ¬ CQ < CP := by omega
            have m4 : List.take (k * 4) F1 = F1 := List.take_of_length_le (by omega)
            by_cases hkp : k = p
            · subst hkp
              have hsame := hkv.symm.trans hpv
              simp only [List.cons.injEq, and_true] at hsame
              obtain ⟨rfl, rfl, rfl, rfl⟩ := hsame
              simp [beqI, bneI, mm_min2, mm_max2, mm_min3, mm_max3, startE, lkE, lkX, lkE_rest, sx, substE, opVA, objs0, List.replicate, XA_seq, XA_region, XOA_go, goE_someA, opV, ev, putA, layAll, XOA_nil, XA_skip_seq, XA_skip_nil, XOA_gd, goG_tA, goG_uA, binV, binInt, unV, XA_ret_nil, XA_ret_cons, endFA_r, endFA_n, endTA_r, endTA_n, endRA_r, endRA_n, fltR, resultsA, resAs, resA, XA_block, XA_cond, pickX_t, pickX_f, pickX_b, XA_skip_blk, XA_skip_lp, XA_exit_seq, XA_exit_lp, XA_exit_blk, XA_exit_nil, load1, Ev.loadCells, objCells, bodyCells, setCells, AV.flat, AV.flat1, backR, backV, backCell, mapO, AV.cells, AV.atom, AV.tree, fillV, repeatL, treeCell, freezeAll, eqCells, callV_T, callV_F, passN, passV, passCell, srcCells, sliceBounds, hiB, loB, thenQ_nA, thenQ_xA, thenQ_rA, runK_nA, runK_xA, runK_rA, wrap_i64, wrap_u64, wrap_u32, wrap_u8, wrap_u16, AV.atom, normA, lkE, fixObjs, fixBody, fixV, fixCell, hk', hdk, he, hw, hkN, hk0, hk1, hk2, hr, hF1, hF2, m1, m2, m3, m4, t1, t2, n1, n2, n3, n4, n5, n6, n7, f3, f4, hqn, hq0, hq1, hq2, hdq, hdp, e6, hcc]
            · have hkp' : ¬ (k : Int) = (p : Int) := by omega
              rw [decide_eq_true (hqs hkp)] at heq
              simp [beqI, bneI, mm_min2, mm_max2, mm_min3, mm_max3, startE, lkE, lkX, lkE_rest, sx, substE, opVA, objs0, List.replicate, XA_seq, XA_region, XOA_go, goE_someA, opV, ev, putA, layAll, XOA_nil, XA_skip_seq, XA_skip_nil, XOA_gd, goG_tA, goG_uA, binV, binInt, unV, XA_ret_nil, XA_ret_cons, endFA_r, endFA_n, endTA_r, endTA_n, endRA_r, endRA_n, fltR, resultsA, resAs, resA, XA_block, XA_cond, pickX_t, pickX_f, pickX_b, XA_skip_blk, XA_skip_lp, XA_exit_seq, XA_exit_lp, XA_exit_blk, XA_exit_nil, load1, Ev.loadCells, objCells, bodyCells, setCells, AV.flat, AV.flat1, backR, backV, backCell, mapO, AV.cells, AV.atom, AV.tree, fillV, repeatL, treeCell, freezeAll, eqCells, callV_T, callV_F, passN, passV, passCell, srcCells, sliceBounds, hiB, loB, thenQ_nA, thenQ_xA, thenQ_rA, runK_nA, runK_xA, runK_rA, wrap_i64, wrap_u64, wrap_u32, wrap_u8, wrap_u16, AV.atom, normA, lkE, fixObjs, fixBody, fixV, fixCell, hk', hdk, he, hw, hkN, hk0, hk1, hk2, hr, hF1, hF2, m1, m2, m3, m4, t1, t2, n1, n2, n3, n4, n5, n6, n7, f3, f4, hqn, hq0, hq1, hq2, hdq, hdp, hkp, hkp', heq, hpl', hp0]
        · intro _
          simp [beqI, bneI, mm_min2, mm_max2, mm_min3, mm_max3, startE, lkE, lkX, lkE_rest, sx, substE, opVA, objs0, List.replicate, XA_seq, XA_region, XOA_go, goE_someA, opV, ev, putA, layAll, XOA_nil, XA_skip_seq, XA_skip_nil, XOA_gd, goG_tA, goG_uA, binV, binInt, unV, XA_ret_nil, XA_ret_cons, endFA_r, endFA_n, endTA_r, endTA_n, endRA_r, endRA_n, fltR, resultsA, resAs, resA, XA_block, XA_cond, pickX_t, pickX_f, pickX_b, XA_skip_blk, XA_skip_lp, XA_exit_seq, XA_exit_lp, XA_exit_blk, XA_exit_nil, load1, Ev.loadCells, objCells, bodyCells, setCells, AV.flat, AV.flat1, backR, backV, backCell, mapO, AV.cells, AV.atom, AV.tree, fillV, repeatL, treeCell, freezeAll, eqCells, callV_T, callV_F, passN, passV, passCell, srcCells, sliceBounds, hiB, loB, thenQ_nA, thenQ_xA, thenQ_rA, runK_nA, runK_xA, runK_rA, wrap_i64, wrap_u64, wrap_u32, wrap_u8, wrap_u16, AV.atom, normA, lkE, fixObjs, fixBody, fixV, fixCell, wakes_ev]
theorem routeLess_law (l : List AV) (h : RDargs [gCat, .slice gN, gN] l) : ∃ H1, cfT tab 7 l [] = some (.bool true, H1) := by
  obtain ⟨x, r, rfl, hx, y, r, rfl, hy, t, r, rfl, ht, rfl⟩ := h
  obtain ⟨ds, m, rfl, hC, hm⟩ := rdarg_cat hx
  obtain ⟨l, rfl, hl, _⟩ := rdarg_nodes hy
  obtain ⟨v, rfl, hv⟩ := rdarg_n ht
  exact cvF_bool (routeLess_ev ds m l v hC hl hv)
theorem routeLess_lifted (os : Os) (started : os.Started) (H : Type) (enc : TypeId × Value → H) :
    ReturnsInHanded {} Try.checked os 7 .any (Rows.routeLessSpec.pre6 enc Try.prog Try.f7 Rows.routeLessRow.domain false) (Rows.routeLessSpec.post enc Try.prog Try.f7 false true false false) := by
  refine returnsInHanded_of_change (C := Try.checked) Try.own started (by kernel_rfl) Try.func7
    (ChangeSpec.witness6 (enc := enc) (C := Try.checked) false ⟨#[], #[.agg #[.slice none 0 0, .int .i64 0], .slice none 0 0, .agg #[.int .u8 0, .int .u8 0, .int .u8 0, .int .u8 0]], []⟩ 8 (by kernel_rfl) (by kernel_rfl) (by kernel_rfl) (by kernel_rfl)) ?_
  intro W base args ds gs before hval hW hcnd _
  have hval' : ∀ (j : Nat) (t : TypeId) (v : Value), Try.f7.params.toList[j]? = some t → args[j]? = some v → Value.okWide Try.prog W .any base t v := fun j t v h1 h2 => hval j t v (by simpa using h1) h2
  obtain ⟨p, q, hA, hV, hpq, _, _⟩ := id hW
  have hg : gtsB Try.prog [gCat, .slice gN, gN] Try.f7.params.toList = true := by kernel_rfl
  refine (law_calls' tab_ok hg routeLess_law hval' hA).mono fun e W' ⟨he, hb⟩ => ?_
  subst he
  refine ⟨_, rfl, post_true Try.laidOut (rt := 4) (fun ds h => ?_) rfl (by kernel_rfl) (by kernel_rfl) (by kernel_rfl) hW hb⟩
  match ds, h with
  | [_, _, _], _ => rfl
theorem routeLess_holds : Rows.RouteLessSaid :=
  OpenClaim.holds_of_wide 7 Try.f7 rfl rfl rfl rfl rfl rfl rfl ⟨rfl, rfl, rfl, rfl, rfl⟩ rfl rfl rfl rfl rfl (by kernel_rfl) Try.func7 (by kernel_rfl)
    (of_decide_eq_true (by kernel_rfl)) (by unfold Func.isWrapper; first | (rw [if_pos (by decide +kernel)]; kernel_rfl) | (rw [if_neg (by decide +kernel)]; exact ⟨rfl, rfl⟩))
    (fun os started H enc _ => routeLess_lifted os started H enc)
end Go.Proofs.Ytaflkcaebecpfaa
