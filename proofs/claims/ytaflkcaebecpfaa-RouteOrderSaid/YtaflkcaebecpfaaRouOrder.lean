/- The order has each node once; each stands behind what it is made out of, and behind all that lie below it. -/
import Derived.Test.YtaflkcaebecpfaaRouReach
set_option linter.unusedSimpArgs false
set_option linter.unusedVariables false
set_option maxHeartbeats 8000000
set_option maxRecDepth 100000
namespace Go.Proofs.Ytaflkcaebecpfaa
open Go.Ev
/-- Where those of the first k stand, from 1 on. -/
def atRow (o : List Nat) (k n : Nat) : List AV := (List.range n).map fun x => .int .i64 (if x ∈ o.take k then (o.idxOf x : Int) + 1 else 0)
theorem atRow_len (o : List Nat) (k n : Nat) : (atRow o k n).length = n := by simp [atRow]
theorem atRow_get (o : List Nat) (k n x : Nat) (hx : x < n) : (atRow o k n)[x]? = some (.int .i64 (if x ∈ o.take k then (o.idxOf x : Int) + 1 else 0)) := by
  simp [atRow, hx]
theorem atRow_zero (o : List Nat) (n : Nat) : List.replicate n (AV.int .i64 0) = atRow o 0 n := by
  apply List.ext_getElem?
  intro x
  rw [List.getElem?_replicate]
  by_cases hx : x < n
  · rw [if_pos hx, atRow_get o 0 n x hx]; simp
  · rw [if_neg hx, List.getElem?_eq_none (by rw [atRow_len]; omega)]
theorem atRow_set (o : List Nat) (k n : Nat) (hn : o.Nodup) (hk : k < o.length) (hx : o[k] < n) :
    List.take o[k] (atRow o k n) ++ .int .i64 ((k : Int) + 1) :: List.drop (o[k] + 1) (atRow o k n) = atRow o (k + 1) n := by
  have h1 : List.take o[k] (atRow o k n) ++ .int .i64 ((k : Int) + 1) :: List.drop (o[k] + 1) (atRow o k n) = (atRow o k n).set o[k] (.int .i64 ((k : Int) + 1)) := by
    rw [List.set_eq_take_append_cons_drop, if_pos (by rw [atRow_len]; exact hx)]
  rw [h1]
  apply List.ext_getElem?
  intro x
  by_cases hxn : x < n
  · rw [List.getElem?_set, atRow_get o (k + 1) n x hxn, atRow_get o k n x hxn, atRow_len]
    have hm : x ∈ o.take (k + 1) ↔ x ∈ o.take k ∨ o[k] = x := by
      rw [List.take_succ_eq_append_getElem hk, List.mem_append, List.mem_singleton]
      exact ⟨fun h => h.imp id Eq.symm, fun h => h.imp id Eq.symm⟩
    by_cases e : o[k] = x
    · rw [if_pos e, if_pos hx]
      have hin : x ∈ o.take (k + 1) := hm.2 (.inr e)
      have hidx : o.idxOf x = k := by rw [← e]; exact hn.idxOf_getElem k hk
      rw [if_pos hin, hidx]
    · rw [if_neg e]
      by_cases c : x ∈ o.take k
      · rw [if_pos c, if_pos (hm.2 (.inl c))]
      · rw [if_neg c, if_neg (fun h => (hm.1 h).elim c e)]
  · rw [List.getElem?_eq_none (by rw [List.length_set, atRow_len]; omega), List.getElem?_eq_none (by rw [atRow_len]; omega)]
theorem atRow_new (o : List Nat) (k : Nat) (hn : o.Nodup) (hk : k < o.length) : ¬ o[k] ∈ o.take k := by
  intro h
  obtain ⟨j, hj, e⟩ := List.getElem_of_mem h
  rw [List.length_take] at hj
  rw [List.getElem_take] at e
  have := (List.getElem_inj hn).1 e
  omega
theorem routeOrder_ev (ds : List Dm) (m : Int) (l : List (List Int)) (hC : okC ds) (hl : okNs l) :
    cvF tab 4 [.agg [.ro ds.length (flatD ds), .int .i64 m], rN l] = some (.bool true) := by
  refine cvFA_R (mf := Mf.f4) rfl rfl (by kernel_rfl) ?_
  simp only [Mf.f4]
  have e1 := lightCat_ev ds m
  have e2 := rrogood_ev ds m l hC hl
  simp only [rN] at e2 ⊢
  cases gl : lightC ds with
  | false =>
    rw [gl] at e1
    simp [beqI, bneI, mm_min2, mm_max2, mm_min3, mm_max3, startE, lkE, lkX, lkE_rest, sx, substE, opVA, objs0, List.replicate, XA_seq, XA_region, XOA_go, goE_someA, opV, ev, putA, layAll, XOA_nil, XA_skip_seq, XA_skip_nil, XOA_gd, goG_tA, goG_uA, binV, binInt, unV, XA_ret_nil, XA_ret_cons, endFA_r, endFA_n, endTA_r, endTA_n, endRA_r, endRA_n, fltR, resultsA, resAs, resA, XA_block, XA_cond, pickX_t, pickX_f, pickX_b, XA_skip_blk, XA_skip_lp, XA_exit_seq, XA_exit_lp, XA_exit_blk, XA_exit_nil, load1, Ev.loadCells, objCells, bodyCells, setCells, AV.flat, AV.flat1, backR, backV, backCell, mapO, AV.cells, AV.atom, AV.tree, fillV, repeatL, treeCell, freezeAll, eqCells, callV_T, callV_F, passN, passV, passCell, srcCells, sliceBounds, hiB, loB, thenQ_nA, thenQ_xA, thenQ_rA, runK_nA, runK_xA, runK_rA, wrap_i64, wrap_u64, wrap_u32, wrap_u8, wrap_u16, e1, wakes_ev]
  | true =>
    rw [gl] at e1
    cases g : goodR ds m l with
    | false =>
      rw [g] at e2
      simp [beqI, bneI, mm_min2, mm_max2, mm_min3, mm_max3, startE, lkE, lkX, lkE_rest, sx, substE, opVA, objs0, List.replicate, XA_seq, XA_region, XOA_go, goE_someA, opV, ev, putA, layAll, XOA_nil, XA_skip_seq, XA_skip_nil, XOA_gd, goG_tA, goG_uA, binV, binInt, unV, XA_ret_nil, XA_ret_cons, endFA_r, endFA_n, endTA_r, endTA_n, endRA_r, endRA_n, fltR, resultsA, resAs, resA, XA_block, XA_cond, pickX_t, pickX_f, pickX_b, XA_skip_blk, XA_skip_lp, XA_exit_seq, XA_exit_lp, XA_exit_blk, XA_exit_nil, load1, Ev.loadCells, objCells, bodyCells, setCells, AV.flat, AV.flat1, backR, backV, backCell, mapO, AV.cells, AV.atom, AV.tree, fillV, repeatL, treeCell, freezeAll, eqCells, callV_T, callV_F, passN, passV, passCell, srcCells, sliceBounds, hiB, loB, thenQ_nA, thenQ_xA, thenQ_rA, runK_nA, runK_xA, runK_rA, wrap_i64, wrap_u64, wrap_u32, wrap_u8, wrap_u16, e1, e2, wakes_ev]
    | true =>
      rw [g] at e2
      have h12 := (goodR_at g).2.2.1
      have e3 := order_ev ds m l hC hl
      have hlen := ordB_len (rk l) 21 l.length (rk_in g hl)
      have hnd := ordB_nodup (rk l) 21 l.length (rk_in g hl)
      have hmem : ∀ x ∈ ordB (rk l) l.length 21, x < l.length := fun x hx => (ordB_mem hx).1
      have hall : ∀ x, x < l.length → x ∈ ordB (rk l) l.length 21 := fun x hx => ordB_all hx (rk_in g hl x hx).1 (rk_in g hl x hx).2
      have hplc : ∀ x, (ordB (rk l) l.length 21).idxOf x = plc l x := fun x => rfl
      unfold orderN at e3
      rw [if_pos g] at e3
      generalize ordB (rk l) l.length 21 = o at *
      have hs1 := fun k (hk : k < l.length) (hz : gR l k ≠ zero4) => source_is g hl hk hz
      have hs0 := fun k (hk : k < l.length) (hz : gR l k = zero4) => source_none g hl hk hz
      have hpl : ∀ {a b : Nat}, a < l.length → b < l.length → rk l a < rk l b → plc l a < plc l b := fun ha hb h => plc_lt g hl ha hb h
      have hnb := (goodR_at g).2.2.2.2.1
      obtain ⟨n, hn⟩ : ∃ n, l.length = n := ⟨_, rfl⟩
      have hdrop := fun i (hi : i < l.length) => dropV hl hi
      have hsrc := fun i : Nat => source_ev ds m l i hC hl
      have hbel := fun i j (hi : i < l.length) (hj : j < l.length) => rbelow_ev (gR l i) (gR l j) (hl.at hi) (hl.at hj)
      have hfour := fun i (hi : i < l.length) => four (hl.at hi)
      simp only [rN, rNat, hn] at e2 e3 hlen hmem hall hs1 hs0 hpl hdrop hsrc hbel hfour h12 ⊢
      rw [hlen] at e3
      obtain ⟨fl, hfl⟩ : ∃ x, flatN l = x := ⟨_, rfl⟩
      simp only [hfl] at e2 e3 hdrop hsrc ⊢
      have q1 : (n : Int) * 8 ≤ 140737488355328 := by omega
      have q2 : (n : Int) < 4611686018427387904 := by omega
      have q4 := atRow_zero o n
      have hgetD : ∀ k (hk : k < n), (dN o)[k]? = some (.int .i64 (o[k]'(by omega) : Nat)) := fun k hk => by unfold dN; simp [hlen, hk]
      simp [beqI, bneI, mm_min2, mm_max2, mm_min3, mm_max3, startE, lkE, lkX, lkE_rest, sx, substE, opVA, objs0, List.replicate, XA_seq, XA_region, XOA_go, goE_someA, opV, ev, putA, layAll, XOA_nil, XA_skip_seq, XA_skip_nil, XOA_gd, goG_tA, goG_uA, binV, binInt, unV, XA_ret_nil, XA_ret_cons, endFA_r, endFA_n, endTA_r, endTA_n, endRA_r, endRA_n, fltR, resultsA, resAs, resA, XA_block, XA_cond, pickX_t, pickX_f, pickX_b, XA_skip_blk, XA_skip_lp, XA_exit_seq, XA_exit_lp, XA_exit_blk, XA_exit_nil, load1, Ev.loadCells, objCells, bodyCells, setCells, AV.flat, AV.flat1, backR, backV, backCell, mapO, AV.cells, AV.atom, AV.tree, fillV, repeatL, treeCell, freezeAll, eqCells, callV_T, callV_F, passN, passV, passCell, srcCells, sliceBounds, hiB, loB, thenQ_nA, thenQ_xA, thenQ_rA, runK_nA, runK_xA, runK_rA, wrap_i64, wrap_u64, wrap_u32, wrap_u8, wrap_u16, e1, e2, e3, q1, q2]
      rw [q4]
      refine XA_for (fun k => ⟨[(1, .ro n fl), (2, .ptr 0 0 0), (5, .ro n (dN o)), (6, .own 1 0 0 n 1), (7, .int .i64 k)], [⟨0, .var [.ro ds.length (flatD ds), .int .i64 m]⟩, ⟨0, .row true 1 (atRow o k n)⟩]⟩)
        (fun _ => True) n 0 (by omega) (by simp [AV.atom, normA, lkE, fixObjs, fixBody, fixV, fixCell]) trivial ?_ ?_
      · intro k _ hk _
        have hk' : (k : Int) < (n : Int) := by omega
        have hko : k < o.length := by omega
        have hx : o[k] < n := hmem _ (List.getElem_mem hko)
        have hnew := atRow_new o k hnd hko
        have hget := atRow_get o k n o[k] hx
        rw [if_neg hnew] at hget
        have hset := atRow_set o k n hnd hko hx
        have hal := atRow_len o k n
        have hgd := hgetD k hk
        have hw := wrap_succ k n hk (by omega)
        generalize o[k] = x at *
        generalize atRow o k n = R at *
        generalize atRow o (k + 1) n = R2 at *
        have hx' : (x : Int) < (n : Int) := by omega
        have hxn : ¬ (x : Int) < 0 := by omega
        have hx0 : (0 : Int) ≤ (x : Int) := by omega
        have hx2 : ¬ (n : Int) ≤ (x : Int) := by omega
        have hx3 : x + 1 ≤ n := by omega
        simp [beqI, bneI, mm_min2, mm_max2, mm_min3, mm_max3, startE, lkE, lkX, lkE_rest, sx, substE, opVA, objs0, List.replicate, XA_seq, XA_region, XOA_go, goE_someA, opV, ev, putA, layAll, XOA_nil, XA_skip_seq, XA_skip_nil, XOA_gd, goG_tA, goG_uA, binV, binInt, unV, XA_ret_nil, XA_ret_cons, endFA_r, endFA_n, endTA_r, endTA_n, endRA_r, endRA_n, fltR, resultsA, resAs, resA, XA_block, XA_cond, pickX_t, pickX_f, pickX_b, XA_skip_blk, XA_skip_lp, XA_exit_seq, XA_exit_lp, XA_exit_blk, XA_exit_nil, load1, Ev.loadCells, objCells, bodyCells, setCells, AV.flat, AV.flat1, backR, backV, backCell, mapO, AV.cells, AV.atom, AV.tree, fillV, repeatL, treeCell, freezeAll, eqCells, callV_T, callV_F, passN, passV, passCell, srcCells, sliceBounds, hiB, loB, thenQ_nA, thenQ_xA, thenQ_rA, runK_nA, runK_xA, runK_rA, wrap_i64, wrap_u64, wrap_u32, wrap_u8, wrap_u16, AV.atom, normA, lkE, fixObjs, fixBody, fixV, fixCell, hk', hgd, hx', hxn, hx0, hx2, hx3, hget, hw, hset, hal]
      · intro _
        have hot : o.take n = o := List.take_of_length_le (by omega)
        have hR : ∀ x, x < n → (atRow o n n)[x]? = some (.int .i64 ((plc l x : Int) + 1)) := fun x hx => by
          have h := atRow_get o n n x hx
          rw [hot, if_pos (hall x hx), hplc] at h
          exact h
        have hRl := atRow_len o n n
        generalize atRow o n n = R at *
        simp [beqI, bneI, mm_min2, mm_max2, mm_min3, mm_max3, startE, lkE, lkX, lkE_rest, sx, substE, opVA, objs0, List.replicate, XA_seq, XA_region, XOA_go, goE_someA, opV, ev, putA, layAll, XOA_nil, XA_skip_seq, XA_skip_nil, XOA_gd, goG_tA, goG_uA, binV, binInt, unV, XA_ret_nil, XA_ret_cons, endFA_r, endFA_n, endTA_r, endTA_n, endRA_r, endRA_n, fltR, resultsA, resAs, resA, XA_block, XA_cond, pickX_t, pickX_f, pickX_b, XA_skip_blk, XA_skip_lp, XA_exit_seq, XA_exit_lp, XA_exit_blk, XA_exit_nil, load1, Ev.loadCells, objCells, bodyCells, setCells, AV.flat, AV.flat1, backR, backV, backCell, mapO, AV.cells, AV.atom, AV.tree, fillV, repeatL, treeCell, freezeAll, eqCells, callV_T, callV_F, passN, passV, passCell, srcCells, sliceBounds, hiB, loB, thenQ_nA, thenQ_xA, thenQ_rA, runK_nA, runK_xA, runK_rA, wrap_i64, wrap_u64, wrap_u32, wrap_u8, wrap_u16, AV.atom, normA, lkE, fixObjs, fixBody, fixV, fixCell]
        refine XA_for (fun i => ⟨[(1, .ro n fl), (2, .ptr 0 0 0), (6, .own 1 0 0 n 1), (8, .int .i64 i)], [⟨0, .var [.ro ds.length (flatD ds), .int .i64 m]⟩, ⟨0, .row true 1 R⟩]⟩)
          (fun _ => True) n 0 (by omega) (by simp [AV.atom, normA, lkE, fixObjs, fixBody, fixV, fixCell]) trivial ?_ ?_
        · intro i _ hi _
          have hi' : (i : Int) < (n : Int) := by omega
          have hi0 : (0 : Int) ≤ (i : Int) := by omega
          have hd := hdrop i hi
          have hs := hsrc i
          rw [if_pos ⟨g, hi0, hi'⟩, Int.toNat_natCast] at hs
          have hri := hR i hi
          have hw := wrap_succ i n hi (by omega)
          -- what is below it stands ahead
          have hlow : ∀ k, k < n → k ≠ i → belowN (gR l k) (gR l i) = true → plc l k < plc l i := fun k hk hne hb =>
            hpl hk hi (below_rank (hl.at (by omega)) (hl.at (by omega)) hb fun e => hne (nodup_at hnb (by omega) (by omega) e))
          by_cases hz : gR l i = zero4
          · have hs2 := hs0 i hi hz
            rw [hs2] at hs
            obtain ⟨V, hV⟩ : ∃ V, gR l i = V := ⟨_, rfl⟩
            rw [hz] at hd
            simp only [zero4, List.map_cons, List.map_nil, List.cons_append, List.nil_append] at hd
            have hn1 : ¬ (n : Int) ≤ -1 := by omega
            simp [beqI, bneI, mm_min2, mm_max2, mm_min3, mm_max3, startE, lkE, lkX, lkE_rest, sx, substE, opVA, objs0, List.replicate, XA_seq, XA_region, XOA_go, goE_someA, opV, ev, putA, layAll, XOA_nil, XA_skip_seq, XA_skip_nil, XOA_gd, goG_tA, goG_uA, binV, binInt, unV, XA_ret_nil, XA_ret_cons, endFA_r, endFA_n, endTA_r, endTA_n, endRA_r, endRA_n, fltR, resultsA, resAs, resA, XA_block, XA_cond, pickX_t, pickX_f, pickX_b, XA_skip_blk, XA_skip_lp, XA_exit_seq, XA_exit_lp, XA_exit_blk, XA_exit_nil, load1, Ev.loadCells, objCells, bodyCells, setCells, AV.flat, AV.flat1, backR, backV, backCell, mapO, AV.cells, AV.atom, AV.tree, fillV, repeatL, treeCell, freezeAll, eqCells, callV_T, callV_F, passN, passV, passCell, srcCells, sliceBounds, hiB, loB, thenQ_nA, thenQ_xA, thenQ_rA, runK_nA, runK_xA, runK_rA, wrap_i64, wrap_u64, wrap_u32, wrap_u8, wrap_u16, AV.atom, normA, lkE, fixObjs, fixBody, fixV, fixCell, hi', hs, hd, hn1]
            refine XA_for (fun k => ⟨[(1, .ro n fl), (2, .ptr 0 0 0), (6, .own 1 0 0 n 1), (8, .int .i64 i), (10, .int .i64 k)], [⟨0, .var [.ro ds.length (flatD ds), .int .i64 m]⟩, ⟨0, .row true 1 R⟩]⟩)
              (fun _ => True) n 0 (by omega) (by simp [AV.atom, normA, lkE, fixObjs, fixBody, fixV, fixCell]) trivial ?_ ?_
            · intro k _ hk _
              have hk' : (k : Int) < (n : Int) := by omega
              have hwk := wrap_succ k n hk (by omega)
              by_cases hki : k = i
              · subst hki
                simp [beqI, bneI, mm_min2, mm_max2, mm_min3, mm_max3, startE, lkE, lkX, lkE_rest, sx, substE, opVA, objs0, List.replicate, XA_seq, XA_region, XOA_go, goE_someA, opV, ev, putA, layAll, XOA_nil, XA_skip_seq, XA_skip_nil, XOA_gd, goG_tA, goG_uA, binV, binInt, unV, XA_ret_nil, XA_ret_cons, endFA_r, endFA_n, endTA_r, endTA_n, endRA_r, endRA_n, fltR, resultsA, resAs, resA, XA_block, XA_cond, pickX_t, pickX_f, pickX_b, XA_skip_blk, XA_skip_lp, XA_exit_seq, XA_exit_lp, XA_exit_blk, XA_exit_nil, load1, Ev.loadCells, objCells, bodyCells, setCells, AV.flat, AV.flat1, backR, backV, backCell, mapO, AV.cells, AV.atom, AV.tree, fillV, repeatL, treeCell, freezeAll, eqCells, callV_T, callV_F, passN, passV, passCell, srcCells, sliceBounds, hiB, loB, thenQ_nA, thenQ_xA, thenQ_rA, runK_nA, runK_xA, runK_rA, wrap_i64, wrap_u64, wrap_u32, wrap_u8, wrap_u16, AV.atom, normA, lkE, fixObjs, fixBody, fixV, fixCell, hk', hwk]
              · have hki' : ¬ (k : Int) = (i : Int) := by omega
                have hdk := hdrop k hk
                have hdi := hdrop i hi
                have hb := hbel k i hk hi
                have hlk := hlow k hk hki
                have hrk := hR k hk
                have hri2 := hR i hi
                generalize belowN (gR l k) (gR l i) = F at *
                obtain ⟨k0, k1, k2, k3, hkv, _, _, _, _⟩ := hfour k hk
                obtain ⟨j0, j1, j2, j3, hjv, _, _, _, _⟩ := hfour i hi
                rw [hkv] at hdk hb
                rw [hjv] at hdi hb
                simp only [List.map_cons, List.map_nil, List.cons_append, List.nil_append] at hdk hdi hb
                cases F with
                | false => simp [beqI, bneI, mm_min2, mm_max2, mm_min3, mm_max3, startE, lkE, lkX, lkE_rest, sx, substE, opVA, objs0, List.replicate, XA_seq, XA_region, XOA_go, goE_someA, opV, ev, putA, layAll, XOA_nil, XA_skip_seq, XA_skip_nil, XOA_gd, goG_tA, goG_uA, binV, binInt, unV, XA_ret_nil, XA_ret_cons, endFA_r, endFA_n, endTA_r, endTA_n, endRA_r, endRA_n, fltR, resultsA, resAs, resA, XA_block, XA_cond, pickX_t, pickX_f, pickX_b, XA_skip_blk, XA_skip_lp, XA_exit_seq, XA_exit_lp, XA_exit_blk, XA_exit_nil, load1, Ev.loadCells, objCells, bodyCells, setCells, AV.flat, AV.flat1, backR, backV, backCell, mapO, AV.cells, AV.atom, AV.tree, fillV, repeatL, treeCell, freezeAll, eqCells, callV_T, callV_F, passN, passV, passCell, srcCells, sliceBounds, hiB, loB, thenQ_nA, thenQ_xA, thenQ_rA, runK_nA, runK_xA, runK_rA, wrap_i64, wrap_u64, wrap_u32, wrap_u8, wrap_u16, AV.atom, normA, lkE, fixObjs, fixBody, fixV, fixCell, hk', hi', hwk, hki, hki', hdk, hdi, hb]
                | true =>
                  have hpp : ¬ (plc l i : Int) + 1 ≤ (plc l k : Int) + 1 := by have := hlk rfl; omega
                  have hpp2 : ¬ plc l i ≤ plc l k := by have := hlk rfl; omega
                  simp [beqI, bneI, mm_min2, mm_max2, mm_min3, mm_max3, startE, lkE, lkX, lkE_rest, sx, substE, opVA, objs0, List.replicate, XA_seq, XA_region, XOA_go, goE_someA, opV, ev, putA, layAll, XOA_nil, XA_skip_seq, XA_skip_nil, XOA_gd, goG_tA, goG_uA, binV, binInt, unV, XA_ret_nil, XA_ret_cons, endFA_r, endFA_n, endTA_r, endTA_n, endRA_r, endRA_n, fltR, resultsA, resAs, resA, XA_block, XA_cond, pickX_t, pickX_f, pickX_b, XA_skip_blk, XA_skip_lp, XA_exit_seq, XA_exit_lp, XA_exit_blk, XA_exit_nil, load1, Ev.loadCells, objCells, bodyCells, setCells, AV.flat, AV.flat1, backR, backV, backCell, mapO, AV.cells, AV.atom, AV.tree, fillV, repeatL, treeCell, freezeAll, eqCells, callV_T, callV_F, passN, passV, passCell, srcCells, sliceBounds, hiB, loB, thenQ_nA, thenQ_xA, thenQ_rA, runK_nA, runK_xA, runK_rA, wrap_i64, wrap_u64, wrap_u32, wrap_u8, wrap_u16, AV.atom, normA, lkE, fixObjs, fixBody, fixV, fixCell, hk', hi', hwk, hki, hki', hdk, hdi, hb, hrk, hri2, hpp, hpp2]
            · intro _
              simp [beqI, bneI, mm_min2, mm_max2, mm_min3, mm_max3, startE, lkE, lkX, lkE_rest, sx, substE, opVA, objs0, List.replicate, XA_seq, XA_region, XOA_go, goE_someA, opV, ev, putA, layAll, XOA_nil, XA_skip_seq, XA_skip_nil, XOA_gd, goG_tA, goG_uA, binV, binInt, unV, XA_ret_nil, XA_ret_cons, endFA_r, endFA_n, endTA_r, endTA_n, endRA_r, endRA_n, fltR, resultsA, resAs, resA, XA_block, XA_cond, pickX_t, pickX_f, pickX_b, XA_skip_blk, XA_skip_lp, XA_exit_seq, XA_exit_lp, XA_exit_blk, XA_exit_nil, load1, Ev.loadCells, objCells, bodyCells, setCells, AV.flat, AV.flat1, backR, backV, backCell, mapO, AV.cells, AV.atom, AV.tree, fillV, repeatL, treeCell, freezeAll, eqCells, callV_T, callV_F, passN, passV, passCell, srcCells, sliceBounds, hiB, loB, thenQ_nA, thenQ_xA, thenQ_rA, runK_nA, runK_xA, runK_rA, wrap_i64, wrap_u64, wrap_u32, wrap_u8, wrap_u16, AV.atom, normA, lkE, fixObjs, fixBody, fixV, fixCell, hw]
          · obtain ⟨s, h1, h2, h3, h4, h5⟩ := hs1 i hi hz
            rw [h1] at hs
            have hrs := hR s h2
            have hps := hpl h2 hi h5
            have hs' : (s : Int) < (n : Int) := by omega
            have hsn : ¬ (s : Int) < 0 := by omega
            have hs00 : (0 : Int) ≤ (s : Int) := by omega
            have hs2 : ¬ (n : Int) ≤ (s : Int) := by omega
            have hpp : ¬ (plc l i : Int) + 1 ≤ (plc l s : Int) + 1 := by omega
            have hpp2 : ¬ plc l i ≤ plc l s := by omega
            have hne : ¬ gR l i = [0, 0, 0, 0] := hz
            obtain ⟨i0, i1, i2, i3, hiv, _, _, _, _⟩ := hfour i hi
            have he := eqN4 i0 i1 i2 i3 0 0 0 0
            have hd' := hd
            rw [hiv] at hd' hne
            rw [decide_eq_false hne] at he
            simp only [List.map_cons, List.map_nil, List.cons_append, List.nil_append] at hd'
            simp [beqI, bneI, mm_min2, mm_max2, mm_min3, mm_max3, startE, lkE, lkX, lkE_rest, sx, substE, opVA, objs0, List.replicate, XA_seq, XA_region, XOA_go, goE_someA, opV, ev, putA, layAll, XOA_nil, XA_skip_seq, XA_skip_nil, XOA_gd, goG_tA, goG_uA, binV, binInt, unV, XA_ret_nil, XA_ret_cons, endFA_r, endFA_n, endTA_r, endTA_n, endRA_r, endRA_n, fltR, resultsA, resAs, resA, XA_block, XA_cond, pickX_t, pickX_f, pickX_b, XA_skip_blk, XA_skip_lp, XA_exit_seq, XA_exit_lp, XA_exit_blk, XA_exit_nil, load1, Ev.loadCells, objCells, bodyCells, setCells, AV.flat, AV.flat1, backR, backV, backCell, mapO, AV.cells, AV.atom, AV.tree, fillV, repeatL, treeCell, freezeAll, eqCells, callV_T, callV_F, passN, passV, passCell, srcCells, sliceBounds, hiB, loB, thenQ_nA, thenQ_xA, thenQ_rA, runK_nA, runK_xA, runK_rA, wrap_i64, wrap_u64, wrap_u32, wrap_u8, wrap_u16, AV.atom, normA, lkE, fixObjs, fixBody, fixV, fixCell, hi', hs, hd', he, hs', hsn, hs00, hs2, hrs, hri, hpp, hpp2]
            refine XA_for (fun k => ⟨[(1, .ro n fl), (2, .ptr 0 0 0), (6, .own 1 0 0 n 1), (8, .int .i64 i), (10, .int .i64 k)], [⟨0, .var [.ro ds.length (flatD ds), .int .i64 m]⟩, ⟨0, .row true 1 R⟩]⟩)
              (fun _ => True) n 0 (by omega) (by simp [AV.atom, normA, lkE, fixObjs, fixBody, fixV, fixCell]) trivial ?_ ?_
            · intro k _ hk _
              have hk' : (k : Int) < (n : Int) := by omega
              have hwk := wrap_succ k n hk (by omega)
              by_cases hki : k = i
              · subst hki
                simp [beqI, bneI, mm_min2, mm_max2, mm_min3, mm_max3, startE, lkE, lkX, lkE_rest, sx, substE, opVA, objs0, List.replicate, XA_seq, XA_region, XOA_go, goE_someA, opV, ev, putA, layAll, XOA_nil, XA_skip_seq, XA_skip_nil, XOA_gd, goG_tA, goG_uA, binV, binInt, unV, XA_ret_nil, XA_ret_cons, endFA_r, endFA_n, endTA_r, endTA_n, endRA_r, endRA_n, fltR, resultsA, resAs, resA, XA_block, XA_cond, pickX_t, pickX_f, pickX_b, XA_skip_blk, XA_skip_lp, XA_exit_seq, XA_exit_lp, XA_exit_blk, XA_exit_nil, load1, Ev.loadCells, objCells, bodyCells, setCells, AV.flat, AV.flat1, backR, backV, backCell, mapO, AV.cells, AV.atom, AV.tree, fillV, repeatL, treeCell, freezeAll, eqCells, callV_T, callV_F, passN, passV, passCell, srcCells, sliceBounds, hiB, loB, thenQ_nA, thenQ_xA, thenQ_rA, runK_nA, runK_xA, runK_rA, wrap_i64, wrap_u64, wrap_u32, wrap_u8, wrap_u16, AV.atom, normA, lkE, fixObjs, fixBody, fixV, fixCell, hk', hwk]
              · have hki' : ¬ (k : Int) = (i : Int) := by omega
                have hdk := hdrop k hk
                have hdi := hdrop i hi
                have hb := hbel k i hk hi
                have hlk := hlow k hk hki
                have hrk := hR k hk
                have hri2 := hR i hi
                generalize belowN (gR l k) (gR l i) = F at *
                obtain ⟨k0, k1, k2, k3, hkv, _, _, _, _⟩ := hfour k hk
                obtain ⟨j0, j1, j2, j3, hjv, _, _, _, _⟩ := hfour i hi
                rw [hkv] at hdk hb
                rw [hjv] at hdi hb
                simp only [List.map_cons, List.map_nil, List.cons_append, List.nil_append] at hdk hdi hb
                cases F with
                | false => simp [beqI, bneI, mm_min2, mm_max2, mm_min3, mm_max3, startE, lkE, lkX, lkE_rest, sx, substE, opVA, objs0, List.replicate, XA_seq, XA_region, XOA_go, goE_someA, opV, ev, putA, layAll, XOA_nil, XA_skip_seq, XA_skip_nil, XOA_gd, goG_tA, goG_uA, binV, binInt, unV, XA_ret_nil, XA_ret_cons, endFA_r, endFA_n, endTA_r, endTA_n, endRA_r, endRA_n, fltR, resultsA, resAs, resA, XA_block, XA_cond, pickX_t, pickX_f, pickX_b, XA_skip_blk, XA_skip_lp, XA_exit_seq, XA_exit_lp, XA_exit_blk, XA_exit_nil, load1, Ev.loadCells, objCells, bodyCells, setCells, AV.flat, AV.flat1, backR, backV, backCell, mapO, AV.cells, AV.atom, AV.tree, fillV, repeatL, treeCell, freezeAll, eqCells, callV_T, callV_F, passN, passV, passCell, srcCells, sliceBounds, hiB, loB, thenQ_nA, thenQ_xA, thenQ_rA, runK_nA, runK_xA, runK_rA, wrap_i64, wrap_u64, wrap_u32, wrap_u8, wrap_u16, AV.atom, normA, lkE, fixObjs, fixBody, fixV, fixCell, hk', hi', hwk, hki, hki', hdk, hdi, hb]
                | true =>
                  have hpp : ¬ (plc l i : Int) + 1 ≤ (plc l k : Int) + 1 := by have := hlk rfl; omega
                  have hpp2 : ¬ plc l i ≤ plc l k := by have := hlk rfl; omega
                  simp [beqI, bneI, mm_min2, mm_max2, mm_min3, mm_max3, startE, lkE, lkX, lkE_rest, sx, substE, opVA, objs0, List.replicate, XA_seq, XA_region, XOA_go, goE_someA, opV, ev, putA, layAll, XOA_nil, XA_skip_seq, XA_skip_nil, XOA_gd, goG_tA, goG_uA, binV, binInt, unV, XA_ret_nil, XA_ret_cons, endFA_r, endFA_n, endTA_r, endTA_n, endRA_r, endRA_n, fltR, resultsA, resAs, resA, XA_block, XA_cond, pickX_t, pickX_f, pickX_b, XA_skip_blk, XA_skip_lp, XA_exit_seq, XA_exit_lp, XA_exit_blk, XA_exit_nil, load1, Ev.loadCells, objCells, bodyCells, setCells, AV.flat, AV.flat1, backR, backV, backCell, mapO, AV.cells, AV.atom, AV.tree, fillV, repeatL, treeCell, freezeAll, eqCells, callV_T, callV_F, passN, passV, passCell, srcCells, sliceBounds, hiB, loB, thenQ_nA, thenQ_xA, thenQ_rA, runK_nA, runK_xA, runK_rA, wrap_i64, wrap_u64, wrap_u32, wrap_u8, wrap_u16, AV.atom, normA, lkE, fixObjs, fixBody, fixV, fixCell, hk', hi', hwk, hki, hki', hdk, hdi, hb, hrk, hri2, hpp, hpp2]
            · intro _
              simp [beqI, bneI, mm_min2, mm_max2, mm_min3, mm_max3, startE, lkE, lkX, lkE_rest, sx, substE, opVA, objs0, List.replicate, XA_seq, XA_region, XOA_go, goE_someA, opV, ev, putA, layAll, XOA_nil, XA_skip_seq, XA_skip_nil, XOA_gd, goG_tA, goG_uA, binV, binInt, unV, XA_ret_nil, XA_ret_cons, endFA_r, endFA_n, endTA_r, endTA_n, endRA_r, endRA_n, fltR, resultsA, resAs, resA, XA_block, XA_cond, pickX_t, pickX_f, pickX_b, XA_skip_blk, XA_skip_lp, XA_exit_seq, XA_exit_lp, XA_exit_blk, XA_exit_nil, load1, Ev.loadCells, objCells, bodyCells, setCells, AV.flat, AV.flat1, backR, backV, backCell, mapO, AV.cells, AV.atom, AV.tree, fillV, repeatL, treeCell, freezeAll, eqCells, callV_T, callV_F, passN, passV, passCell, srcCells, sliceBounds, hiB, loB, thenQ_nA, thenQ_xA, thenQ_rA, runK_nA, runK_xA, runK_rA, wrap_i64, wrap_u64, wrap_u32, wrap_u8, wrap_u16, AV.atom, normA, lkE, fixObjs, fixBody, fixV, fixCell, hw]
        · intro _
          simp [beqI, bneI, mm_min2, mm_max2, mm_min3, mm_max3, startE, lkE, lkX, lkE_rest, sx, substE, opVA, objs0, List.replicate, XA_seq, XA_region, XOA_go, goE_someA, opV, ev, putA, layAll, XOA_nil, XA_skip_seq, XA_skip_nil, XOA_gd, goG_tA, goG_uA, binV, binInt, unV, XA_ret_nil, XA_ret_cons, endFA_r, endFA_n, endTA_r, endTA_n, endRA_r, endRA_n, fltR, resultsA, resAs, resA, XA_block, XA_cond, pickX_t, pickX_f, pickX_b, XA_skip_blk, XA_skip_lp, XA_exit_seq, XA_exit_lp, XA_exit_blk, XA_exit_nil, load1, Ev.loadCells, objCells, bodyCells, setCells, AV.flat, AV.flat1, backR, backV, backCell, mapO, AV.cells, AV.atom, AV.tree, fillV, repeatL, treeCell, freezeAll, eqCells, callV_T, callV_F, passN, passV, passCell, srcCells, sliceBounds, hiB, loB, thenQ_nA, thenQ_xA, thenQ_rA, runK_nA, runK_xA, runK_rA, wrap_i64, wrap_u64, wrap_u32, wrap_u8, wrap_u16, AV.atom, normA, lkE, fixObjs, fixBody, fixV, fixCell, wakes_ev]
theorem routeOrder_law (l : List AV) (h : RDargs [gCat, .slice gN] l) : ∃ H1, cfT tab 4 l [] = some (.bool true, H1) := by
  obtain ⟨x, r, rfl, hx, y, r, rfl, hy, rfl⟩ := h
  obtain ⟨ds, m, rfl, hC, hm⟩ := rdarg_cat hx
  obtain ⟨l, rfl, hl, _⟩ := rdarg_nodes hy
  exact cvF_bool (routeOrder_ev ds m l hC hl)
theorem routeOrder_lifted (os : Os) (started : os.Started) (H : Type) (enc : TypeId × Value → H) :
    ReturnsInHanded {} Try.checked os 4 .any (Rows.routeOrderSpec.pre6 enc Try.prog Try.f4 Rows.routeOrderRow.domain false) (Rows.routeOrderSpec.post enc Try.prog Try.f4 false true false false) := by
  refine returnsInHanded_of_change (C := Try.checked) Try.own started (by kernel_rfl) Try.func4
    (ChangeSpec.witness6 (enc := enc) (C := Try.checked) false ⟨#[], #[.agg #[.slice none 0 0, .int .i64 0], .slice none 0 0], []⟩ 8 (by kernel_rfl) (by kernel_rfl) (by kernel_rfl) (by kernel_rfl)) ?_
  intro W base args ds gs before hval hW hcnd _
  have hval' : ∀ (j : Nat) (t : TypeId) (v : Value), Try.f4.params.toList[j]? = some t → args[j]? = some v → Value.okWide Try.prog W .any base t v := fun j t v h1 h2 => hval j t v (by simpa using h1) h2
  obtain ⟨p, q, hA, hV, hpq, _, _⟩ := id hW
  have hg : gtsB Try.prog [gCat, .slice gN] Try.f4.params.toList = true := by kernel_rfl
  refine (law_calls' tab_ok hg routeOrder_law hval' hA).mono fun e W' ⟨he, hb⟩ => ?_
  subst he
  refine ⟨_, rfl, post_true Try.laidOut (rt := 4) (fun ds h => ?_) rfl (by kernel_rfl) (by kernel_rfl) (by kernel_rfl) hW hb⟩
  match ds, h with
  | [_, _], _ => rfl
theorem routeOrder_holds : Rows.RouteOrderSaid :=
  OpenClaim.holds_of_wide 4 Try.f4 rfl rfl rfl rfl rfl rfl rfl ⟨rfl, rfl, rfl, rfl, rfl⟩ rfl rfl rfl rfl rfl (by kernel_rfl) Try.func4 (by kernel_rfl)
    (of_decide_eq_true (by kernel_rfl)) (by unfold Func.isWrapper; first | (rw [if_pos (by decide +kernel)]; kernel_rfl) | (rw [if_neg (by decide +kernel)]; exact ⟨rfl, rfl⟩))
    (fun os started H enc _ => routeOrder_lifted os started H enc)
end Go.Proofs.Ytaflkcaebecpfaa
