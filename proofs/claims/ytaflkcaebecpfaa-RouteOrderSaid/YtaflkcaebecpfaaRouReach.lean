/- From each node, from what it is made out of to what that is made out of, the base is reached, down and down. -/
import Derived.Test.YtaflkcaebecpfaaRouCom
import Derived.Test.YtaflkcaebecpfaaRouG
set_option linter.unusedSimpArgs false
set_option linter.unusedVariables false
set_option maxHeartbeats 8000000
set_option maxRecDepth 100000
namespace Go.Proofs.Ytaflkcaebecpfaa
open Go.Ev
/-- What a node but the base is made out of. -/
theorem source_is {ds : List Dm} {m : Int} {l : List (List Int)} (g : goodR ds m l = true) (hl : okNs l) {k : Nat} (hk : k < l.length) (hz : gR l k ≠ zero4) :
    ∃ s : Nat, bestN ds m l k (gR l k) = s ∧ s < l.length ∧ s ≠ k ∧ belowN (gR l s) (gR l k) = true ∧ rk l s < rk l k := by
  obtain ⟨z, hzl, ez⟩ := idx_of (goodR_at g).2.2.2.2.2
  have hne : bestN ds m l k (gR l k) ≠ -1 := fun h => by
    have := (chB_none _ _ _ _).1 h z hzl (fun e => hz (by rw [← ez]; congr 1; omega))
    unfold okAt at this
    rw [ez, below_zero (hl.at hk)] at this
    cases this
  obtain ⟨s, h1, h2, h3, h4, h5⟩ := chB_best _ _ _ _ hne
  have h3' : s ≠ k := fun e => h3 (by rw [e])
  exact ⟨s, h1, h2, h3', h4, below_rank (hl.at h2) (hl.at hk) h4 fun e => h3' (nodup_at (goodR_at g).2.2.2.2.1 h2 hk e)⟩
theorem source_none {ds : List Dm} {m : Int} {l : List (List Int)} (g : goodR ds m l = true) (hl : okNs l) {k : Nat} (hk : k < l.length) (hz : gR l k = zero4) : bestN ds m l k (gR l k) = -1 := by
  refine (chB_none _ _ _ _).2 fun j hj hb => ?_
  unfold okAt
  cases h : belowN (gR l j) (gR l k) with
  | false => rfl
  | true =>
    rw [hz] at h
    have := zero_below (hl.at hj) h
    exact absurd (nodup_at (goodR_at g).2.2.2.2.1 hj hk (by rw [this, hz])) (fun e => hb (by rw [e]))
/-- Its place in the order. -/
def plc (l : List (List Int)) (k : Nat) : Nat := (ordB (rk l) l.length 21).idxOf k
theorem plc_in {ds : List Dm} {m : Int} {l : List (List Int)} (g : goodR ds m l = true) (hl : okNs l) {k : Nat} (hk : k < l.length) : plc l k < l.length := by
  have h := rk_in g hl k hk
  have hm := ordB_all (k := 21) hk h.1 h.2
  have := List.idxOf_lt_length_of_mem hm
  rw [ordB_len (rk l) 21 l.length (rk_in g hl)] at this
  exact this
theorem plc_lt {ds : List Dm} {m : Int} {l : List (List Int)} (g : goodR ds m l = true) (hl : okNs l) {a b : Nat} (ha : a < l.length) (hb : b < l.length) (h : rk l a < rk l b) : plc l a < plc l b := by
  have h1 := rk_in g hl a ha
  exact idx_lt ha hb h1.1 h1.2 h
theorem routeReach_ev (ds : List Dm) (m : Int) (l : List (List Int)) (hC : okC ds) (hl : okNs l) :
    cvF tab 5 [.agg [.ro ds.length (flatD ds), .int .i64 m], rN l] = some (.bool true) := by
  refine cvFA_R (mf := Mf.f5) rfl rfl (by kernel_rfl) ?_
  simp only [Mf.f5]
  have e1 := lightCat_ev ds m
  have e2 := rrogood_ev ds m l hC hl
  simp only [rN] at e2 ⊢
  cases gl : lightC ds with
  | false =>
    rw [gl] at e1
    simp [beqI, bneI, mm_min2, mm_max2, mm_min3, mm_max3, startE, lkE, lkX, lkE_rest, sx, substE, opVA, objs0, List.replicate, XA_seq, XA_region, XOA_go, goE_someA, opV, ev, putA, layAll, XOA_nil, XA_skip_seq, XA_skip_nil, XOA_gd, goG_tA, goG_uA, binV, binInt, unV, XA_ret_nil, XA_ret_cons, endFA_r, endFA_n, endTA_r, endTA_n, endRA_r, endRA_n, fltR, resultsA, resAs, resA, XA_block, XA_cond, pickX_t, pickX_f, pickX_b, XA_skip_blk, XA_skip_lp, XA_exit_seq, XA_exit_lp, XA_exit_blk, XA_exit_nil, load1, Ev.loadCells, objCells, bodyCells, setCells, AV.flat, AV.flat1, backR, backV, backCell, mapO, AV.cells, AV.atom, AV.tree, fillV, repeatL, treeCell, freezeAll, eqCells, callV_T, callV_F, passN, passV, passCell, srcCells, sliceBounds, hiB, loB, thenQ_nA, thenQ_xA, thenQ_rA, runK_nA, runK_xA, runK_rA, wrap_i64, wrap_u64, wrap_u32, wrap_u8, wrap_u16, e1, wakes_ev]
  | true =>
    rw [gl] at e1
    cases g : goodR ds m l with
    | false =>
      rw [g] at e2
      simp [beqI, bneI, mm_min2, mm_max2, mm_min3, mm_max3, startE, lkE, lkX, lkE_rest, sx, substE, opVA, objs0, List.replicate, XA_seq, XA_region, XOA_go, goE_someA, opV, ev, putA, layAll, XOA_nil, XA_skip_seq, XA_skip_nil, XOA_gd, goG_tA, goG_uA, binV, binInt, unV, XA_ret_nil, XA_ret_cons, endFA_r, endFA_n, endTA_r, endTA_n, endRA_r, endRA_n, fltR, resultsA, resAs, resA, XA_block, XA_cond, pickX_t, pickX_f, pickX_b, XA_skip_blk, XA_skip_lp, XA_exit_seq, XA_exit_lp, XA_exit_blk, XA_exit_nil, load1, Ev.loadCells, objCells, bodyCells, setCells, AV.flat, AV.flat1, backR, backV, backCell, mapO, AV.cells, AV.atom, AV.tree, fillV, repeatL, treeCell, freezeAll, eqCells, callV_T, callV_F, passN, passV, passCell, srcCells, sliceBounds, hiB, loB, thenQ_nA, thenQ_xA, thenQ_rA, runK_nA, runK_xA, runK_rA, wrap_i64, wrap_u64, wrap_u32, wrap_u8, wrap_u16, e1, e2, wakes_ev]
    | true =>
      rw [g] at e2
      have h12 := (goodR_at g).2.2.1
      simp [beqI, bneI, mm_min2, mm_max2, mm_min3, mm_max3, startE, lkE, lkX, lkE_rest, sx, substE, opVA, objs0, List.replicate, XA_seq, XA_region, XOA_go, goE_someA, opV, ev, putA, layAll, XOA_nil, XA_skip_seq, XA_skip_nil, XOA_gd, goG_tA, goG_uA, binV, binInt, unV, XA_ret_nil, XA_ret_cons, endFA_r, endFA_n, endTA_r, endTA_n, endRA_r, endRA_n, fltR, resultsA, resAs, resA, XA_block, XA_cond, pickX_t, pickX_f, pickX_b, XA_skip_blk, XA_skip_lp, XA_exit_seq, XA_exit_lp, XA_exit_blk, XA_exit_nil, load1, Ev.loadCells, objCells, bodyCells, setCells, AV.flat, AV.flat1, backR, backV, backCell, mapO, AV.cells, AV.atom, AV.tree, fillV, repeatL, treeCell, freezeAll, eqCells, callV_T, callV_F, passN, passV, passCell, srcCells, sliceBounds, hiB, loB, thenQ_nA, thenQ_xA, thenQ_rA, runK_nA, runK_xA, runK_rA, wrap_i64, wrap_u64, wrap_u32, wrap_u8, wrap_u16, e1, e2]
      refine XA_for (fun i => ⟨[(1, .ro l.length (flatN l)), (2, .ptr 0 0 0), (5, .int .i64 i)], [⟨0, .var [.ro ds.length (flatD ds), .int .i64 m]⟩]⟩)
        (fun _ => True) l.length 0 (by omega) (by simp [AV.atom, normA, lkE, fixObjs, fixBody, fixV, fixCell]) trivial ?_ ?_
      · intro i _ hi _
        have hi' : (i : Int) < l.length := by omega
        have hwi := wrap_succ i l.length hi (by omega)
        simp [beqI, bneI, mm_min2, mm_max2, mm_min3, mm_max3, startE, lkE, lkX, lkE_rest, sx, substE, opVA, objs0, List.replicate, XA_seq, XA_region, XOA_go, goE_someA, opV, ev, putA, layAll, XOA_nil, XA_skip_seq, XA_skip_nil, XOA_gd, goG_tA, goG_uA, binV, binInt, unV, XA_ret_nil, XA_ret_cons, endFA_r, endFA_n, endTA_r, endTA_n, endRA_r, endRA_n, fltR, resultsA, resAs, resA, XA_block, XA_cond, pickX_t, pickX_f, pickX_b, XA_skip_blk, XA_skip_lp, XA_exit_seq, XA_exit_lp, XA_exit_blk, XA_exit_nil, load1, Ev.loadCells, objCells, bodyCells, setCells, AV.flat, AV.flat1, backR, backV, backCell, mapO, AV.cells, AV.atom, AV.tree, fillV, repeatL, treeCell, freezeAll, eqCells, callV_T, callV_F, passN, passV, passCell, srcCells, sliceBounds, hiB, loB, thenQ_nA, thenQ_xA, thenQ_rA, runK_nA, runK_xA, runK_rA, wrap_i64, wrap_u64, wrap_u32, wrap_u8, wrap_u16, AV.atom, normA, lkE, fixObjs, fixBody, fixV, fixCell, hi']
        refine XA_loop (α := Nat × Nat) (fun x => ⟨[(1, .ro l.length (flatN l)), (2, .ptr 0 0 0), (5, .int .i64 i), (6, .int .i64 x.1), (7, .int .i64 x.2)], [⟨0, .var [.ro ds.length (flatD ds), .int .i64 m]⟩]⟩)
          (fun x => x.1 < l.length ∧ plc l x.1 + x.2 + 1 ≤ l.length) (fun x => plc l x.1) (i, 0) (by simp [AV.atom, normA, lkE, fixObjs, fixBody, fixV, fixCell]) ⟨hi, by have := plc_in g hl hi; simp only; omega⟩ ?_
        rintro ⟨k, n⟩ ⟨hk, hp⟩
        simp only at hk hp
        have hk' : (k : Int) < l.length := by omega
        have hdk := dropV hl hk
        have e3 := source_ev ds m l k hC hl
        have hk0 : (0 : Int) ≤ (k : Int) := by omega
        rw [if_pos ⟨g, hk0, hk'⟩, Int.toNat_natCast] at e3
        have rr := rrank_ev (gR l k) (hl.at hk)
        by_cases hz : gR l k = zero4
        · rw [hz] at hdk
          simp only [zero4, List.map_cons, List.map_nil, List.cons_append, List.nil_append] at hdk
          simp [beqI, bneI, mm_min2, mm_max2, mm_min3, mm_max3, startE, lkE, lkX, lkE_rest, sx, substE, opVA, objs0, List.replicate, XA_seq, XA_region, XOA_go, goE_someA, opV, ev, putA, layAll, XOA_nil, XA_skip_seq, XA_skip_nil, XOA_gd, goG_tA, goG_uA, binV, binInt, unV, XA_ret_nil, XA_ret_cons, endFA_r, endFA_n, endTA_r, endTA_n, endRA_r, endRA_n, fltR, resultsA, resAs, resA, XA_block, XA_cond, pickX_t, pickX_f, pickX_b, XA_skip_blk, XA_skip_lp, XA_exit_seq, XA_exit_lp, XA_exit_blk, XA_exit_nil, load1, Ev.loadCells, objCells, bodyCells, setCells, AV.flat, AV.flat1, backR, backV, backCell, mapO, AV.cells, AV.atom, AV.tree, fillV, repeatL, treeCell, freezeAll, eqCells, callV_T, callV_F, passN, passV, passCell, srcCells, sliceBounds, hiB, loB, thenQ_nA, thenQ_xA, thenQ_rA, runK_nA, runK_xA, runK_rA, wrap_i64, wrap_u64, wrap_u32, wrap_u8, wrap_u16, AV.atom, normA, lkE, fixObjs, fixBody, fixV, fixCell, hk', hdk, hwi]
        · obtain ⟨s, h1, h2, h3, h4, h5⟩ := source_is g hl hk hz
          rw [h1] at e3
          have hs' : (s : Int) < l.length := by omega
          have hs2 : ¬ (l.length : Int) ≤ (s : Int) := by omega
          have hsn : ¬ (s : Int) < 0 := by omega
          have hpl := plc_lt g hl h2 hk h5
          have hw : IntKind.i64.wrap ((n : Int) + 1) = ((n + 1 : Nat) : Int) := by rw [wrap_i64 (by omega) (by omega)]; omega
          have hn2 : ¬ (l.length : Int) ≤ (n : Int) + 1 := by omega
          have hn3 : (n : Int) + 1 < l.length := by omega
          have hds := dropV hl h2
          have eb := rbelow_ev (gR l s) (gR l k) (hl.at h2) (hl.at hk)
          rw [h4] at eb
          have rs := rrank_ev (gR l s) (hl.at h2)
          have hrk : ¬ rankN (gR l k) ≤ rankN (gR l s) := by unfold rk at h5; omega
          have hne : ¬ gR l k = [0, 0, 0, 0] := hz
          generalize rankN (gR l k) = RK at *
          generalize rankN (gR l s) = RS at *
          obtain ⟨k0, k1, k2, k3, hkv, _, _, _, _⟩ := four (hl.at hk)
          obtain ⟨s0, s1, s2, s3, hsv, _, _, _, _⟩ := four (hl.at h2)
          have he := eqN4 k0 k1 k2 k3 0 0 0 0
          rw [hkv] at hdk eb rr hne
          rw [hsv] at hds eb rs
          rw [decide_eq_false hne] at he
          simp only [rN, List.map_cons, List.map_nil, List.cons_append, List.nil_append] at hdk hds e3 eb rr rs
          simp [beqI, bneI, mm_min2, mm_max2, mm_min3, mm_max3, startE, lkE, lkX, lkE_rest, sx, substE, opVA, objs0, List.replicate, XA_seq, XA_region, XOA_go, goE_someA, opV, ev, putA, layAll, XOA_nil, XA_skip_seq, XA_skip_nil, XOA_gd, goG_tA, goG_uA, binV, binInt, unV, XA_ret_nil, XA_ret_cons, endFA_r, endFA_n, endTA_r, endTA_n, endRA_r, endRA_n, fltR, resultsA, resAs, resA, XA_block, XA_cond, pickX_t, pickX_f, pickX_b, XA_skip_blk, XA_skip_lp, XA_exit_seq, XA_exit_lp, XA_exit_blk, XA_exit_nil, load1, Ev.loadCells, objCells, bodyCells, setCells, AV.flat, AV.flat1, backR, backV, backCell, mapO, AV.cells, AV.atom, AV.tree, fillV, repeatL, treeCell, freezeAll, eqCells, callV_T, callV_F, passN, passV, passCell, srcCells, sliceBounds, hiB, loB, thenQ_nA, thenQ_xA, thenQ_rA, runK_nA, runK_xA, runK_rA, wrap_i64, wrap_u64, wrap_u32, wrap_u8, wrap_u16, AV.atom, normA, lkE, fixObjs, fixBody, fixV, fixCell, hk', hdk, he, e3, hs', hs2, hsn, hw, hn2, hn3, hds, eb, rr, rs, hrk]
          exact ⟨s, n + 1, ⟨rfl, by simp⟩, ⟨h2, by omega⟩, hpl⟩
      · intro _
        simp [beqI, bneI, mm_min2, mm_max2, mm_min3, mm_max3, startE, lkE, lkX, lkE_rest, sx, substE, opVA, objs0, List.replicate, XA_seq, XA_region, XOA_go, goE_someA, opV, ev, putA, layAll, XOA_nil, XA_skip_seq, XA_skip_nil, XOA_gd, goG_tA, goG_uA, binV, binInt, unV, XA_ret_nil, XA_ret_cons, endFA_r, endFA_n, endTA_r, endTA_n, endRA_r, endRA_n, fltR, resultsA, resAs, resA, XA_block, XA_cond, pickX_t, pickX_f, pickX_b, XA_skip_blk, XA_skip_lp, XA_exit_seq, XA_exit_lp, XA_exit_blk, XA_exit_nil, load1, Ev.loadCells, objCells, bodyCells, setCells, AV.flat, AV.flat1, backR, backV, backCell, mapO, AV.cells, AV.atom, AV.tree, fillV, repeatL, treeCell, freezeAll, eqCells, callV_T, callV_F, passN, passV, passCell, srcCells, sliceBounds, hiB, loB, thenQ_nA, thenQ_xA, thenQ_rA, runK_nA, runK_xA, runK_rA, wrap_i64, wrap_u64, wrap_u32, wrap_u8, wrap_u16, AV.atom, normA, lkE, fixObjs, fixBody, fixV, fixCell, wakes_ev]
theorem routeReach_law (l : List AV) (h : RDargs [gCat, .slice gN] l) : ∃ H1, cfT tab 5 l [] = some (.bool true, H1) := by
  obtain ⟨x, r, rfl, hx, y, r, rfl, hy, rfl⟩ := h
  obtain ⟨ds, m, rfl, hC, hm⟩ := rdarg_cat hx
  obtain ⟨l, rfl, hl, _⟩ := rdarg_nodes hy
  exact cvF_bool (routeReach_ev ds m l hC hl)
theorem routeReach_lifted (os : Os) (started : os.Started) (H : Type) (enc : TypeId × Value → H) :
    ReturnsInHanded {} Try.checked os 5 .any (Rows.routeReachSpec.pre6 enc Try.prog Try.f5 Rows.routeReachRow.domain false) (Rows.routeReachSpec.post enc Try.prog Try.f5 false true false false) := by
  refine returnsInHanded_of_change (C := Try.checked) Try.own started (by kernel_rfl) Try.func5
    (ChangeSpec.witness6 (enc := enc) (C := Try.checked) false ⟨#[], #[.agg #[.slice none 0 0, .int .i64 0], .slice none 0 0], []⟩ 8 (by kernel_rfl) (by kernel_rfl) (by kernel_rfl) (by kernel_rfl)) ?_
  intro W base args ds gs before hval hW hcnd _
  have hval' : ∀ (j : Nat) (t : TypeId) (v : Value), Try.f5.params.toList[j]? = some t → args[j]? = some v → Value.okWide Try.prog W .any base t v := fun j t v h1 h2 => hval j t v (by simpa using h1) h2
  obtain ⟨p, q, hA, hV, hpq, _, _⟩ := id hW
  have hg : gtsB Try.prog [gCat, .slice gN] Try.f5.params.toList = true := by kernel_rfl
  refine (law_calls' tab_ok hg routeReach_law hval' hA).mono fun e W' ⟨he, hb⟩ => ?_
  subst he
  refine ⟨_, rfl, post_true Try.laidOut (rt := 4) (fun ds h => ?_) rfl (by kernel_rfl) (by kernel_rfl) (by kernel_rfl) hW hb⟩
  match ds, h with
  | [_, _], _ => rfl
theorem routeReach_holds : Rows.RouteReachSaid :=
  OpenClaim.holds_of_wide 5 Try.f5 rfl rfl rfl rfl rfl rfl rfl ⟨rfl, rfl, rfl, rfl, rfl⟩ rfl rfl rfl rfl rfl (by kernel_rfl) Try.func5 (by kernel_rfl)
    (of_decide_eq_true (by kernel_rfl)) (by unfold Func.isWrapper; first | (rw [if_pos (by decide +kernel)]; kernel_rfl) | (rw [if_neg (by decide +kernel)]; exact ⟨rfl, rfl⟩))
    (fun os started H enc _ => routeReach_lifted os started H enc)
end Go.Proofs.Ytaflkcaebecpfaa
