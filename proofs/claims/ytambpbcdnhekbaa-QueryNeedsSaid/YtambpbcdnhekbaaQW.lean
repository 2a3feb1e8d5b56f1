/- All nodes, the document's. -/
import Derived.Test.YtambpbcdnhekbaaLatRef
set_option linter.unusedSimpArgs false
set_option linter.unusedVariables false
set_option maxHeartbeats 4000000
set_option maxRecDepth 100000
namespace Go.Proofs.Ytambpbcdnhekbaa
open Go.Ev
/-! ### All, dimension by dimension -/
def stage (ds : List Dm) (t : Nat) (v : List Int) : List (List Int) := (List.range (wOf ds t + 1)).map fun (n : Nat) => v.set t (n : Int)
def outS (ds : List Dm) : Nat → List (List Int)
  | 0 => [[0, 0, 0, 0]]
  | t + 1 => (outS ds t).flatMap (stage ds t)
theorem outS_len4 (ds : List Dm) : ∀ t, ∀ v ∈ outS ds t, v.length = 4
  | 0, v, h => by simp [outS] at h; subst h; rfl
  | t + 1, v, h => by
    obtain ⟨w, hw, h⟩ := List.mem_flatMap.1 h
    obtain ⟨n, _, rfl⟩ := List.mem_map.1 h
    rw [List.length_set]
    exact outS_len4 ds t w hw
theorem flat_le {α β : Type} (f : α → List β) (k : Nat) : ∀ (l : List α), (∀ x ∈ l, (f x).length ≤ k) → (l.flatMap f).length ≤ l.length * k
  | [], _ => by simp
  | a :: l, h => by
    have h1 := flat_le f k l fun x hx => h x (by simp [hx])
    have h2 := h a (by simp)
    rw [List.flatMap_cons, List.length_append, List.length_cons, Nat.succ_mul]
    omega
theorem outS_le {ds : List Dm} {m : Int} (g : goodC ds m = true) : ∀ t, (outS ds t).length ≤ 5 ^ t
  | 0 => by simp [outS]
  | t + 1 => by
    have h1 := outS_le g t
    have h2 := flat_le (stage ds t) 5 (outS ds t) fun x _ => by
      have := wOf_le g t
      simp [stage]; omega
    rw [Nat.pow_succ]
    exact Nat.le_trans h2 (Nat.mul_le_mul_right 5 h1)
theorem flatMap_single {α β : Type} (f : α → β) (l : List α) : l.flatMap (fun x => [f x]) = l.map f := by
  induction l with
  | nil => rfl
  | cons a l ih => simp [ih]
theorem outS_all {ds : List Dm} {m : Int} (g : goodC ds m = true) : outS ds ds.length = allN ds m := by
  have hl := goodC_len g
  unfold allN
  rw [if_pos g]
  have h1 : outS ds 1 = (List.range (wOf ds 0 + 1)).map fun (a : Nat) => [(a : Int), 0, 0, 0] := by
    simp [outS, stage]
  have h2 : outS ds 2 = (List.range (wOf ds 0 + 1)).flatMap fun (a : Nat) => (List.range (wOf ds 1 + 1)).map fun (b : Nat) => [(a : Int), (b : Int), 0, 0] := by
    rw [show outS ds 2 = (outS ds 1).flatMap (stage ds 1) from rfl, h1, List.flatMap_map]
    rfl
  have h3 : outS ds 3 = (List.range (wOf ds 0 + 1)).flatMap fun (a : Nat) => (List.range (wOf ds 1 + 1)).flatMap fun (b : Nat) => (List.range (wOf ds 2 + 1)).map fun (c : Nat) => [(a : Int), (b : Int), (c : Int), 0] := by
    rw [show outS ds 3 = (outS ds 2).flatMap (stage ds 2) from rfl, h2, List.flatMap_assoc]
    simp only [List.flatMap_map]
    rfl
  have h4 : outS ds 4 = allQ (wOf ds 0) (wOf ds 1) (wOf ds 2) (wOf ds 3) := by
    rw [show outS ds 4 = (outS ds 3).flatMap (stage ds 3) from rfl, h3, List.flatMap_assoc]
    simp only [List.flatMap_assoc, List.flatMap_map]
    rfl
  have : ds.length = 1 ∨ ds.length = 2 ∨ ds.length = 3 ∨ ds.length = 4 := by omega
  rcases this with h | h | h | h
  · rw [wOf_out (ds := ds) (i := 1) (by omega), wOf_out (ds := ds) (i := 2) (by omega), wOf_out (ds := ds) (i := 3) (by omega), h, h1]
    simp [allQ, full1, full2, full3, flatMap_single]
  · rw [wOf_out (ds := ds) (i := 2) (by omega), wOf_out (ds := ds) (i := 3) (by omega), h, h2]
    simp [allQ, full1, full2, full3, flatMap_single]
  · rw [wOf_out (ds := ds) (i := 3) (by omega), h, h3]
    simp [allQ, full1, full2, full3, flatMap_single]
  · rw [h, h4]
theorem rall_ev (ds : List Dm) (m : Int) (hC : okC ds) : cvT tab 28 [.agg [.ro ds.length (flatD ds), .int .i64 m]] = some (rN (allN ds m)) := by
  refine cvTA_R (mf := Mf.f28) rfl rfl (by kernel_rfl) ?_
  simp only [Mf.f28]
  cases g : goodC ds m with
  | false => simp [beqI, bneI, mm_min2, mm_max2, mm_min3, mm_max3, startE, lkE, lkX, lkE_rest, sx, substE, opVA, objs0, List.replicate, XA_seq, XA_region, XOA_go, goE_someA, opV, ev, putA, layAll, XOA_nil, XA_skip_seq, XA_skip_nil, XOA_gd, goG_tA, goG_uA, binV, binInt, unV, XA_ret_nil, XA_ret_cons, endFA_r, endFA_n, endTA_r, endTA_n, endRA_r, endRA_n, fltR, resultsA, resAs, resA, XA_block, XA_cond, pickX_t, pickX_f, pickX_b, XA_skip_blk, XA_skip_lp, XA_exit_seq, XA_exit_lp, XA_exit_blk, XA_exit_nil, load1, Ev.loadCells, objCells, bodyCells, setCells, AV.flat, AV.flat1, backR, backV, backCell, mapO, AV.cells, AV.atom, AV.tree, fillV, repeatL, treeCell, freezeAll, eqCells, callV_T, callV_F, passN, passV, passCell, srcCells, sliceBounds, hiB, loB, thenQ_nA, thenQ_xA, thenQ_rA, runK_nA, runK_xA, runK_rA, wrap_i64, wrap_u64, wrap_u32, wrap_u8, wrap_u16, rgood_ev ds m hC, g, allN, rN, flatN]
  | true =>
    have hl := goodC_len g
    rw [← outS_all g]
    simp [beqI, bneI, mm_min2, mm_max2, mm_min3, mm_max3, startE, lkE, lkX, lkE_rest, sx, substE, opVA, objs0, List.replicate, XA_seq, XA_region, XOA_go, goE_someA, opV, ev, putA, layAll, XOA_nil, XA_skip_seq, XA_skip_nil, XOA_gd, goG_tA, goG_uA, binV, binInt, unV, XA_ret_nil, XA_ret_cons, endFA_r, endFA_n, endTA_r, endTA_n, endRA_r, endRA_n, fltR, resultsA, resAs, resA, XA_block, XA_cond, pickX_t, pickX_f, pickX_b, XA_skip_blk, XA_skip_lp, XA_exit_seq, XA_exit_lp, XA_exit_blk, XA_exit_nil, load1, Ev.loadCells, objCells, bodyCells, setCells, AV.flat, AV.flat1, backR, backV, backCell, mapO, AV.cells, AV.atom, AV.tree, fillV, repeatL, treeCell, freezeAll, eqCells, callV_T, callV_F, passN, passV, passCell, srcCells, sliceBounds, hiB, loB, thenQ_nA, thenQ_xA, thenQ_rA, runK_nA, runK_xA, runK_rA, wrap_i64, wrap_u64, wrap_u32, wrap_u8, wrap_u16, rgood_ev ds m hC, g]
    refine XA_for (fun t => ⟨[(1, .ptr 0 0 0), (3, .ro (outS ds t).length (flatN (outS ds t))), (4, .int .i64 t)], [⟨0, .var [.ro ds.length (flatD ds), .int .i64 m]⟩, ⟨0, .none⟩, ⟨0, .none⟩]⟩)
      (fun _ => True) ds.length 0 (Nat.zero_le _) (by simp [AV.atom, normA, lkE, fixObjs, fixBody, fixV, fixCell, outS, flatN]) trivial ?_ ?_
    · intro t _ ht _
      have ht' : (t : Int) < ds.length := by omega
      have h4 := outS_len4 ds t
      have hle := outS_le g t
      have hle2 : (outS ds t).length ≤ 625 := Nat.le_trans hle (by
        have : t = 0 ∨ t = 1 ∨ t = 2 ∨ t = 3 := by omega
        rcases this with rfl | rfl | rfl | rfl <;> decide)
      have hnext : outS ds (t + 1) = (outS ds t).flatMap (stage ds t) := rfl
      have hst : ∀ v, (stage ds t v).length ≤ 5 := fun v => by
        have := wOf_le g t
        simp [stage]; omega
      have hst4 : ∀ v : List Int, v.length = 4 → ∀ w ∈ stage ds t v, w.length = 4 := fun v hv w hw => by
        obtain ⟨n, _, rfl⟩ := List.mem_map.1 hw
        rw [List.length_set, hv]
      have hwt := wOf_le g t
      have hwi : ((gD ds t).S.length : Int) = (wOf ds t : Int) := by unfold wOf; rw [if_pos ht]
      rw [hnext]
      generalize outS ds t = out at *
      generalize hnx : out.flatMap (stage ds t) = nx at *
      simp [beqI, bneI, mm_min2, mm_max2, mm_min3, mm_max3, startE, lkE, lkX, lkE_rest, sx, substE, opVA, objs0, List.replicate, XA_seq, XA_region, XOA_go, goE_someA, opV, ev, putA, layAll, XOA_nil, XA_skip_seq, XA_skip_nil, XOA_gd, goG_tA, goG_uA, binV, binInt, unV, XA_ret_nil, XA_ret_cons, endFA_r, endFA_n, endTA_r, endTA_n, endRA_r, endRA_n, fltR, resultsA, resAs, resA, XA_block, XA_cond, pickX_t, pickX_f, pickX_b, XA_skip_blk, XA_skip_lp, XA_exit_seq, XA_exit_lp, XA_exit_blk, XA_exit_nil, load1, Ev.loadCells, objCells, bodyCells, setCells, AV.flat, AV.flat1, backR, backV, backCell, mapO, AV.cells, AV.atom, AV.tree, fillV, repeatL, treeCell, freezeAll, eqCells, callV_T, callV_F, passN, passV, passCell, srcCells, sliceBounds, hiB, loB, thenQ_nA, thenQ_xA, thenQ_rA, runK_nA, runK_xA, runK_rA, wrap_i64, wrap_u64, wrap_u32, wrap_u8, wrap_u16, AV.atom, normA, lkE, fixObjs, fixBody, fixV, fixCell, ht']
      refine XA_for (fun k => ⟨[(1, .ptr 0 0 0), (3, .ro out.length (flatN out)), (4, .int .i64 t), (5, .own 1 0 0 ((out.take k).flatMap (stage ds t)).length 4), (6, .int .i64 k)], [⟨0, .var [.ro ds.length (flatD ds), .int .i64 m]⟩, ⟨0, .row true 4 (flatN ((out.take k).flatMap (stage ds t)))⟩, ⟨0, .none⟩]⟩)
        (fun _ => True) out.length 0 (Nat.zero_le _) (by simp [AV.atom, normA, lkE, fixObjs, fixBody, fixV, fixCell, flatN]) trivial ?_ ?_
      · intro k _ hk _
        have hk' : (k : Int) < out.length := by omega
        have htk : (out.take (k + 1)).flatMap (stage ds t) = (out.take k).flatMap (stage ds t) ++ stage ds t (gR out k) := by
          rw [List.take_succ_eq_append_getElem hk, List.flatMap_append, gR_get _ _ hk]
          simp
        have hdr := dropN h4 hk
        have hx4 := h4 _ (gR_mem hk)
        have hb1 := flat_le (stage ds t) 5 (out.take k) fun x _ => hst x
        have hb4 : ∀ v ∈ (out.take k).flatMap (stage ds t), v.length = 4 := fun v hv => by
          obtain ⟨w, hw, hv⟩ := List.mem_flatMap.1 hv
          exact hst4 w (h4 w (List.mem_of_mem_take hw)) v hv
        rw [List.length_take] at hb1
        rw [htk]
        generalize gR out k = x at *
        generalize (out.take k).flatMap (stage ds t) = base at *
        have hstg : stage ds t x = (List.range (wOf ds t + 1)).map fun (n : Nat) => x.set t (n : Int) := rfl
        have hx := list4 hx4
        generalize gI x 0 = x0 at *
        generalize gI x 1 = x1 at *
        generalize gI x 2 = x2 at *
        generalize gI x 3 = x3 at *
        simp [beqI, bneI, mm_min2, mm_max2, mm_min3, mm_max3, startE, lkE, lkX, lkE_rest, sx, substE, opVA, objs0, List.replicate, XA_seq, XA_region, XOA_go, goE_someA, opV, ev, putA, layAll, XOA_nil, XA_skip_seq, XA_skip_nil, XOA_gd, goG_tA, goG_uA, binV, binInt, unV, XA_ret_nil, XA_ret_cons, endFA_r, endFA_n, endTA_r, endTA_n, endRA_r, endRA_n, fltR, resultsA, resAs, resA, XA_block, XA_cond, pickX_t, pickX_f, pickX_b, XA_skip_blk, XA_skip_lp, XA_exit_seq, XA_exit_lp, XA_exit_blk, XA_exit_nil, load1, Ev.loadCells, objCells, bodyCells, setCells, AV.flat, AV.flat1, backR, backV, backCell, mapO, AV.cells, AV.atom, AV.tree, fillV, repeatL, treeCell, freezeAll, eqCells, callV_T, callV_F, passN, passV, passCell, srcCells, sliceBounds, hiB, loB, thenQ_nA, thenQ_xA, thenQ_rA, runK_nA, runK_xA, runK_rA, wrap_i64, wrap_u64, wrap_u32, wrap_u8, wrap_u16, AV.atom, normA, lkE, fixObjs, fixBody, fixV, fixCell, hk']
        refine XA_for (fun n => ⟨[(1, .ptr 0 0 0), (3, .ro out.length (flatN out)), (4, .int .i64 t), (5, .own 1 0 0 (base.length + n) 4), (6, .int .i64 k), (7, .int .i64 n)], [⟨0, .var [.ro ds.length (flatD ds), .int .i64 m]⟩, ⟨0, .row true 4 (flatN (base ++ (List.range n).map fun (n : Nat) => x.set t (n : Int)))⟩, ⟨0, .none⟩]⟩)
          (fun _ => True) (wOf ds t + 1) 0 (Nat.zero_le _) (by simp [AV.atom, normA, lkE, fixObjs, fixBody, fixV, fixCell]) trivial ?_ ?_
        · intro n _ hn _
          have hn' : (n : Int) ≤ (wOf ds t : Int) := by omega
          have hwn : IntKind.u8.wrap (n : Int) = n := wrap_u8 (by omega) (by omega)
          have hfl : (flatN (base ++ (List.range n).map fun (n : Nat) => x.set t (n : Int))).length = (base.length + n) * 4 := by
            rw [flatN_len]
            · simp
            · intro v hv
              rcases List.mem_append.1 hv with hv | hv
              · exact hb4 v hv
              · obtain ⟨j, _, rfl⟩ := List.mem_map.1 hv
                rw [List.length_set, hx4]
          have q1 : (base.length + n + 1) * 4 ≤ 140737488355328 := by omega
          have q2 : base.length + n + 1 < 4611686018427387904 := by omega
          have hws : IntKind.i64.wrap ((n : Int) + 1) = (n : Int) + 1 := wrap_i64 (by omega) (by omega)
          have happ : flatN (base ++ (List.range (n + 1)).map fun (n : Nat) => x.set t (n : Int)) = flatN (base ++ (List.range n).map fun (n : Nat) => x.set t (n : Int)) ++ (x.set t (n : Int)).map (.int .u8) := by
            rw [List.range_succ, List.map_append, ← List.append_assoc, flatN_append]
            simp [flatN]
          have hdd := dropD ds t ht
          have hbl : base.length + n + 1 = base.length + (n + 1) := by omega
          have ht4 : t = 0 ∨ t = 1 ∨ t = 2 ∨ t = 3 := by omega
          rw [happ]
          generalize flatN (base ++ (List.range n).map fun (n : Nat) => x.set t (n : Int)) = cs at *
          rcases ht4 with rfl | rfl | rfl | rfl
          · simp at hdd ht'
            simp [beqI, bneI, mm_min2, mm_max2, mm_min3, mm_max3, startE, lkE, lkX, lkE_rest, sx, substE, opVA, objs0, List.replicate, XA_seq, XA_region, XOA_go, goE_someA, opV, ev, putA, layAll, XOA_nil, XA_skip_seq, XA_skip_nil, XOA_gd, goG_tA, goG_uA, binV, binInt, unV, XA_ret_nil, XA_ret_cons, endFA_r, endFA_n, endTA_r, endTA_n, endRA_r, endRA_n, fltR, resultsA, resAs, resA, XA_block, XA_cond, pickX_t, pickX_f, pickX_b, XA_skip_blk, XA_skip_lp, XA_exit_seq, XA_exit_lp, XA_exit_blk, XA_exit_nil, load1, Ev.loadCells, objCells, bodyCells, setCells, AV.flat, AV.flat1, backR, backV, backCell, mapO, AV.cells, AV.atom, AV.tree, fillV, repeatL, treeCell, freezeAll, eqCells, callV_T, callV_F, passN, passV, passCell, srcCells, sliceBounds, hiB, loB, thenQ_nA, thenQ_xA, thenQ_rA, runK_nA, runK_xA, runK_rA, wrap_i64, wrap_u64, wrap_u32, wrap_u8, wrap_u16, AV.atom, normA, lkE, fixObjs, fixBody, fixV, fixCell, ht, ht', hdd, rI, rR, hwi, hn', hk', hdr, hwn, hfl, q1, q2, hws, hx]
            exact hbl
          · simp at hdd ht'
            simp [beqI, bneI, mm_min2, mm_max2, mm_min3, mm_max3, startE, lkE, lkX, lkE_rest, sx, substE, opVA, objs0, List.replicate, XA_seq, XA_region, XOA_go, goE_someA, opV, ev, putA, layAll, XOA_nil, XA_skip_seq, XA_skip_nil, XOA_gd, goG_tA, goG_uA, binV, binInt, unV, XA_ret_nil, XA_ret_cons, endFA_r, endFA_n, endTA_r, endTA_n, endRA_r, endRA_n, fltR, resultsA, resAs, resA, XA_block, XA_cond, pickX_t, pickX_f, pickX_b, XA_skip_blk, XA_skip_lp, XA_exit_seq, XA_exit_lp, XA_exit_blk, XA_exit_nil, load1, Ev.loadCells, objCells, bodyCells, setCells, AV.flat, AV.flat1, backR, backV, backCell, mapO, AV.cells, AV.atom, AV.tree, fillV, repeatL, treeCell, freezeAll, eqCells, callV_T, callV_F, passN, passV, passCell, srcCells, sliceBounds, hiB, loB, thenQ_nA, thenQ_xA, thenQ_rA, runK_nA, runK_xA, runK_rA, wrap_i64, wrap_u64, wrap_u32, wrap_u8, wrap_u16, AV.atom, normA, lkE, fixObjs, fixBody, fixV, fixCell, ht, ht', hdd, rI, rR, hwi, hn', hk', hdr, hwn, hfl, q1, q2, hws, hx]
            exact hbl
          · simp at hdd ht'
            simp [beqI, bneI, mm_min2, mm_max2, mm_min3, mm_max3, startE, lkE, lkX, lkE_rest, sx, substE, opVA, objs0, List.replicate, XA_seq, XA_region, XOA_go, goE_someA, opV, ev, putA, layAll, XOA_nil, XA_skip_seq, XA_skip_nil, XOA_gd, goG_tA, goG_uA, binV, binInt, unV, XA_ret_nil, XA_ret_cons, endFA_r, endFA_n, endTA_r, endTA_n, endRA_r, endRA_n, fltR, resultsA, resAs, resA, XA_block, XA_cond, pickX_t, pickX_f, pickX_b, XA_skip_blk, XA_skip_lp, XA_exit_seq, XA_exit_lp, XA_exit_blk, XA_exit_nil, load1, Ev.loadCells, objCells, bodyCells, setCells, AV.flat, AV.flat1, backR, backV, backCell, mapO, AV.cells, AV.atom, AV.tree, fillV, repeatL, treeCell, freezeAll, eqCells, callV_T, callV_F, passN, passV, passCell, srcCells, sliceBounds, hiB, loB, thenQ_nA, thenQ_xA, thenQ_rA, runK_nA, runK_xA, runK_rA, wrap_i64, wrap_u64, wrap_u32, wrap_u8, wrap_u16, AV.atom, normA, lkE, fixObjs, fixBody, fixV, fixCell, ht, ht', hdd, rI, rR, hwi, hn', hk', hdr, hwn, hfl, q1, q2, hws, hx]
            exact hbl
          · simp at hdd ht'
            simp [beqI, bneI, mm_min2, mm_max2, mm_min3, mm_max3, startE, lkE, lkX, lkE_rest, sx, substE, opVA, objs0, List.replicate, XA_seq, XA_region, XOA_go, goE_someA, opV, ev, putA, layAll, XOA_nil, XA_skip_seq, XA_skip_nil, XOA_gd, goG_tA, goG_uA, binV, binInt, unV, XA_ret_nil, XA_ret_cons, endFA_r, endFA_n, endTA_r, endTA_n, endRA_r, endRA_n, fltR, resultsA, resAs, resA, XA_block, XA_cond, pickX_t, pickX_f, pickX_b, XA_skip_blk, XA_skip_lp, XA_exit_seq, XA_exit_lp, XA_exit_blk, XA_exit_nil, load1, Ev.loadCells, objCells, bodyCells, setCells, AV.flat, AV.flat1, backR, backV, backCell, mapO, AV.cells, AV.atom, AV.tree, fillV, repeatL, treeCell, freezeAll, eqCells, callV_T, callV_F, passN, passV, passCell, srcCells, sliceBounds, hiB, loB, thenQ_nA, thenQ_xA, thenQ_rA, runK_nA, runK_xA, runK_rA, wrap_i64, wrap_u64, wrap_u32, wrap_u8, wrap_u16, AV.atom, normA, lkE, fixObjs, fixBody, fixV, fixCell, ht, ht', hdd, rI, rR, hwi, hn', hk', hdr, hwn, hfl, q1, q2, hws, hx]
            exact hbl
        · intro _
          have hdd := dropD ds t ht
          have hno : ¬ ((wOf ds t : Int) + 1 ≤ (wOf ds t : Int)) := by omega
          simp [beqI, bneI, mm_min2, mm_max2, mm_min3, mm_max3, startE, lkE, lkX, lkE_rest, sx, substE, opVA, objs0, List.replicate, XA_seq, XA_region, XOA_go, goE_someA, opV, ev, putA, layAll, XOA_nil, XA_skip_seq, XA_skip_nil, XOA_gd, goG_tA, goG_uA, binV, binInt, unV, XA_ret_nil, XA_ret_cons, endFA_r, endFA_n, endTA_r, endTA_n, endRA_r, endRA_n, fltR, resultsA, resAs, resA, XA_block, XA_cond, pickX_t, pickX_f, pickX_b, XA_skip_blk, XA_skip_lp, XA_exit_seq, XA_exit_lp, XA_exit_blk, XA_exit_nil, load1, Ev.loadCells, objCells, bodyCells, setCells, AV.flat, AV.flat1, backR, backV, backCell, mapO, AV.cells, AV.atom, AV.tree, fillV, repeatL, treeCell, freezeAll, eqCells, callV_T, callV_F, passN, passV, passCell, srcCells, sliceBounds, hiB, loB, thenQ_nA, thenQ_xA, thenQ_rA, runK_nA, runK_xA, runK_rA, wrap_i64, wrap_u64, wrap_u32, wrap_u8, wrap_u16, AV.atom, normA, lkE, fixObjs, fixBody, fixV, fixCell, ht', hdd, rI, rR, hwi, hno, hstg, wrap_succ k out.length hk (by omega)]
      · intro _
        rw [List.take_length, hnx]
        have hfl := flatN_len (l := nx) fun v hv => by
          rw [← hnx] at hv
          obtain ⟨w, hw, hv⟩ := List.mem_flatMap.1 hv
          exact hst4 w (h4 w hw) v hv
        have hws := wrap_succ t ds.length ht (by omega)
        simp [beqI, bneI, mm_min2, mm_max2, mm_min3, mm_max3, startE, lkE, lkX, lkE_rest, sx, substE, opVA, objs0, List.replicate, XA_seq, XA_region, XOA_go, goE_someA, opV, ev, putA, layAll, XOA_nil, XA_skip_seq, XA_skip_nil, XOA_gd, goG_tA, goG_uA, binV, binInt, unV, XA_ret_nil, XA_ret_cons, endFA_r, endFA_n, endTA_r, endTA_n, endRA_r, endRA_n, fltR, resultsA, resAs, resA, XA_block, XA_cond, pickX_t, pickX_f, pickX_b, XA_skip_blk, XA_skip_lp, XA_exit_seq, XA_exit_lp, XA_exit_blk, XA_exit_nil, load1, Ev.loadCells, objCells, bodyCells, setCells, AV.flat, AV.flat1, backR, backV, backCell, mapO, AV.cells, AV.atom, AV.tree, fillV, repeatL, treeCell, freezeAll, eqCells, callV_T, callV_F, passN, passV, passCell, srcCells, sliceBounds, hiB, loB, thenQ_nA, thenQ_xA, thenQ_rA, runK_nA, runK_xA, runK_rA, wrap_i64, wrap_u64, wrap_u32, wrap_u8, wrap_u16, AV.atom, normA, lkE, fixObjs, fixBody, fixV, fixCell, hfl, List.take_of_length_le, hws]
    · intro _
      simp [beqI, bneI, mm_min2, mm_max2, mm_min3, mm_max3, startE, lkE, lkX, lkE_rest, sx, substE, opVA, objs0, List.replicate, XA_seq, XA_region, XOA_go, goE_someA, opV, ev, putA, layAll, XOA_nil, XA_skip_seq, XA_skip_nil, XOA_gd, goG_tA, goG_uA, binV, binInt, unV, XA_ret_nil, XA_ret_cons, endFA_r, endFA_n, endTA_r, endTA_n, endRA_r, endRA_n, fltR, resultsA, resAs, resA, XA_block, XA_cond, pickX_t, pickX_f, pickX_b, XA_skip_blk, XA_skip_lp, XA_exit_seq, XA_exit_lp, XA_exit_blk, XA_exit_nil, load1, Ev.loadCells, objCells, bodyCells, setCells, AV.flat, AV.flat1, backR, backV, backCell, mapO, AV.cells, AV.atom, AV.tree, fillV, repeatL, treeCell, freezeAll, eqCells, callV_T, callV_F, passN, passV, passCell, srcCells, sliceBounds, hiB, loB, thenQ_nA, thenQ_xA, thenQ_rA, runK_nA, runK_xA, runK_rA, wrap_i64, wrap_u64, wrap_u32, wrap_u8, wrap_u16, AV.atom, normA, lkE, fixObjs, fixBody, fixV, fixCell, rN]
end Go.Proofs.Ytambpbcdnhekbaa
