/- Nodes: the next one, all, what one covers. -/
import Derived.Test.YtldijlajoaddnaaLatA
set_option linter.unusedSimpArgs false
set_option linter.unusedVariables false
set_option maxHeartbeats 4000000
set_option maxRecDepth 100000
namespace Go.Proofs.Ytldijlajoaddnaa
open Go.Ev
/-! ### Rows of nodes -/
def flatN : List (List Int) → List AV
  | [] => []
  | v :: r => v.map (.int .u8) ++ flatN r
def rN (l : List (List Int)) : AV := .ro l.length (flatN l)
theorem flatN_append : ∀ (a b : List (List Int)), flatN (a ++ b) = flatN a ++ flatN b
  | [], b => rfl
  | v :: r, b => by simp [flatN, flatN_append r b]
theorem flatN_len : ∀ {l : List (List Int)}, (∀ v ∈ l, v.length = 4) → (flatN l).length = l.length * 4
  | [], _ => rfl
  | v :: r, h => by
    have h1 := flatN_len (l := r) fun w hw => h w (by simp [hw])
    have h2 := h v (by simp)
    simp [flatN, h1, h2]; omega
theorem dropN : ∀ {l : List (List Int)} {i : Nat}, (∀ v ∈ l, v.length = 4) → i < l.length →
    List.drop (i * 4) (flatN l) = .int .u8 (gI (gR l i) 0) :: .int .u8 (gI (gR l i) 1) :: .int .u8 (gI (gR l i) 2) :: .int .u8 (gI (gR l i) 3) :: flatN (l.drop (i + 1))
  | [], i, _, h => by simp at h
  | v :: r, 0, h, _ => by
    have h2 := h v (by simp)
    match v, h2 with
    | [a, b, c, d], _ => rfl
  | v :: r, i + 1, h, hi => by
    have h2 := h v (by simp)
    have h1 := dropN (l := r) (i := i) (fun w hw => h w (by simp [hw])) (by simpa using hi)
    match v, h2 with
    | [a, b, c, d], _ =>
      rw [show (i + 1) * 4 = i * 4 + 4 from by omega]
      simp only [flatN, List.map, List.cons_append, List.nil_append, List.drop_succ_cons]
      exact h1
theorem gR_mem {l : List (List Int)} {i : Nat} (h : i < l.length) : gR l i ∈ l := by
  rw [gR_get _ _ h]; exact List.getElem_mem h
theorem list4 {v : List Int} (h : v.length = 4) : v = [gI v 0, gI v 1, gI v 2, gI v 3] := by
  match v, h with
  | [a, b, c, d], _ => rfl
/-! ### The next one -/
def nextN : List Int → List Int → List Int
  | [a, b, c, d], [p, q, r, s] => if d < s then [a, b, c, d + 1] else if c < r then [a, b, c + 1, 0] else if b < q then [a, b + 1, 0, 0] else if a < p then [a + 1, 0, 0, 0] else [0, 0, 0, 0]
  | _, _ => []
theorem next_ev (v w : List Int) (hv : okN v) (hw : okN w) : cvF tab 36 [.agg (v.map (.int .u8)), .agg (w.map (.int .u8))] = some (.agg ((nextN v w).map (.int .u8))) := by
  obtain ⟨a, b, c, d, rfl, ha, hb, hc, hd⟩ := four hv
  obtain ⟨p, q, r, s, rfl, hp, hq, hr, hs⟩ := four hw
  unfold byte at *
  refine cvFA_R (mf := Mf.f36) rfl rfl (by kernel_rfl) ?_
  simp only [Mf.f36]
  have w1 : IntKind.i64.wrap (4 - 1) = 3 := by decide
  by_cases h1 : d < s
  · have e : IntKind.u8.wrap (d + 1) = d + 1 := wrap_u8 (by omega) (by omega)
    simp [beqI, bneI, mm_min2, mm_max2, mm_min3, mm_max3, startE, lkE, lkX, lkE_rest, sx, substE, opVA, objs0, List.replicate, XA_seq, XA_region, XOA_go, goE_someA, opV, ev, putA, layAll, XOA_nil, XA_skip_seq, XA_skip_nil, XOA_gd, goG_tA, goG_uA, binV, binInt, unV, XA_ret_nil, XA_ret_cons, endFA_r, endFA_n, endTA_r, endTA_n, endRA_r, endRA_n, fltR, resultsA, resAs, resA, XA_block, XA_cond, pickX_t, pickX_f, pickX_b, XA_skip_blk, XA_skip_lp, XA_exit_seq, XA_exit_lp, XA_exit_blk, XA_exit_nil, load1, Ev.loadCells, objCells, bodyCells, setCells, AV.flat, AV.flat1, backR, backV, backCell, mapO, AV.cells, AV.atom, AV.tree, fillV, repeatL, treeCell, freezeAll, eqCells, callV_T, callV_F, passV, passCell, srcCells, sliceBounds, hiB, loB, thenQ_nA, thenQ_xA, thenQ_rA, runK_nA, runK_xA, runK_rA, wrap_i64, wrap_u64, wrap_u32, wrap_u8, wrap_u16, XA_round, normA, lkE, fixObjs, fixBody, fixV, fixCell, goN_someA, h1, e, nextN]
  · by_cases h2 : c < r
    · have e : IntKind.u8.wrap (c + 1) = c + 1 := wrap_u8 (by omega) (by omega)
      simp [beqI, bneI, mm_min2, mm_max2, mm_min3, mm_max3, startE, lkE, lkX, lkE_rest, sx, substE, opVA, objs0, List.replicate, XA_seq, XA_region, XOA_go, goE_someA, opV, ev, putA, layAll, XOA_nil, XA_skip_seq, XA_skip_nil, XOA_gd, goG_tA, goG_uA, binV, binInt, unV, XA_ret_nil, XA_ret_cons, endFA_r, endFA_n, endTA_r, endTA_n, endRA_r, endRA_n, fltR, resultsA, resAs, resA, XA_block, XA_cond, pickX_t, pickX_f, pickX_b, XA_skip_blk, XA_skip_lp, XA_exit_seq, XA_exit_lp, XA_exit_blk, XA_exit_nil, load1, Ev.loadCells, objCells, bodyCells, setCells, AV.flat, AV.flat1, backR, backV, backCell, mapO, AV.cells, AV.atom, AV.tree, fillV, repeatL, treeCell, freezeAll, eqCells, callV_T, callV_F, passV, passCell, srcCells, sliceBounds, hiB, loB, thenQ_nA, thenQ_xA, thenQ_rA, runK_nA, runK_xA, runK_rA, wrap_i64, wrap_u64, wrap_u32, wrap_u8, wrap_u16, XA_round, normA, lkE, fixObjs, fixBody, fixV, fixCell, goN_someA, h1, h2, e, nextN]
    · by_cases h3 : b < q
      · have e : IntKind.u8.wrap (b + 1) = b + 1 := wrap_u8 (by omega) (by omega)
        simp [beqI, bneI, mm_min2, mm_max2, mm_min3, mm_max3, startE, lkE, lkX, lkE_rest, sx, substE, opVA, objs0, List.replicate, XA_seq, XA_region, XOA_go, goE_someA, opV, ev, putA, layAll, XOA_nil, XA_skip_seq, XA_skip_nil, XOA_gd, goG_tA, goG_uA, binV, binInt, unV, XA_ret_nil, XA_ret_cons, endFA_r, endFA_n, endTA_r, endTA_n, endRA_r, endRA_n, fltR, resultsA, resAs, resA, XA_block, XA_cond, pickX_t, pickX_f, pickX_b, XA_skip_blk, XA_skip_lp, XA_exit_seq, XA_exit_lp, XA_exit_blk, XA_exit_nil, load1, Ev.loadCells, objCells, bodyCells, setCells, AV.flat, AV.flat1, backR, backV, backCell, mapO, AV.cells, AV.atom, AV.tree, fillV, repeatL, treeCell, freezeAll, eqCells, callV_T, callV_F, passV, passCell, srcCells, sliceBounds, hiB, loB, thenQ_nA, thenQ_xA, thenQ_rA, runK_nA, runK_xA, runK_rA, wrap_i64, wrap_u64, wrap_u32, wrap_u8, wrap_u16, XA_round, normA, lkE, fixObjs, fixBody, fixV, fixCell, goN_someA, h1, h2, h3, e, nextN]
      · by_cases h4 : a < p
        · have e : IntKind.u8.wrap (a + 1) = a + 1 := wrap_u8 (by omega) (by omega)
          simp [beqI, bneI, mm_min2, mm_max2, mm_min3, mm_max3, startE, lkE, lkX, lkE_rest, sx, substE, opVA, objs0, List.replicate, XA_seq, XA_region, XOA_go, goE_someA, opV, ev, putA, layAll, XOA_nil, XA_skip_seq, XA_skip_nil, XOA_gd, goG_tA, goG_uA, binV, binInt, unV, XA_ret_nil, XA_ret_cons, endFA_r, endFA_n, endTA_r, endTA_n, endRA_r, endRA_n, fltR, resultsA, resAs, resA, XA_block, XA_cond, pickX_t, pickX_f, pickX_b, XA_skip_blk, XA_skip_lp, XA_exit_seq, XA_exit_lp, XA_exit_blk, XA_exit_nil, load1, Ev.loadCells, objCells, bodyCells, setCells, AV.flat, AV.flat1, backR, backV, backCell, mapO, AV.cells, AV.atom, AV.tree, fillV, repeatL, treeCell, freezeAll, eqCells, callV_T, callV_F, passV, passCell, srcCells, sliceBounds, hiB, loB, thenQ_nA, thenQ_xA, thenQ_rA, runK_nA, runK_xA, runK_rA, wrap_i64, wrap_u64, wrap_u32, wrap_u8, wrap_u16, XA_round, normA, lkE, fixObjs, fixBody, fixV, fixCell, goN_someA, h1, h2, h3, h4, e, nextN]
        · simp [beqI, bneI, mm_min2, mm_max2, mm_min3, mm_max3, startE, lkE, lkX, lkE_rest, sx, substE, opVA, objs0, List.replicate, XA_seq, XA_region, XOA_go, goE_someA, opV, ev, putA, layAll, XOA_nil, XA_skip_seq, XA_skip_nil, XOA_gd, goG_tA, goG_uA, binV, binInt, unV, XA_ret_nil, XA_ret_cons, endFA_r, endFA_n, endTA_r, endTA_n, endRA_r, endRA_n, fltR, resultsA, resAs, resA, XA_block, XA_cond, pickX_t, pickX_f, pickX_b, XA_skip_blk, XA_skip_lp, XA_exit_seq, XA_exit_lp, XA_exit_blk, XA_exit_nil, load1, Ev.loadCells, objCells, bodyCells, setCells, AV.flat, AV.flat1, backR, backV, backCell, mapO, AV.cells, AV.atom, AV.tree, fillV, repeatL, treeCell, freezeAll, eqCells, callV_T, callV_F, passV, passCell, srcCells, sliceBounds, hiB, loB, thenQ_nA, thenQ_xA, thenQ_rA, runK_nA, runK_xA, runK_rA, wrap_i64, wrap_u64, wrap_u32, wrap_u8, wrap_u16, XA_round, normA, lkE, fixObjs, fixBody, fixV, fixCell, goN_someA, h1, h2, h3, h4, nextN]
/-! ### All -/
def full3 (w3 a b c : Nat) : List (List Int) := (List.range (w3 + 1)).map fun (d : Nat) => [(a : Int), (b : Int), (c : Int), (d : Int)]
def full2 (w2 w3 a b : Nat) : List (List Int) := (List.range (w2 + 1)).flatMap fun c => full3 w3 a b c
def full1 (w1 w2 w3 a : Nat) : List (List Int) := (List.range (w1 + 1)).flatMap fun b => full2 w2 w3 a b
def allQ (w0 w1 w2 w3 : Nat) : List (List Int) := (List.range (w0 + 1)).flatMap fun a => full1 w1 w2 w3 a
def pre (w1 w2 w3 a b c d : Nat) : List (List Int) :=
  (List.range a).flatMap (fun a => full1 w1 w2 w3 a) ++ ((List.range b).flatMap (fun b => full2 w2 w3 a b) ++ ((List.range c).flatMap (fun c => full3 w3 a b c) ++ (List.range (d + 1)).map fun (d : Nat) => [(a : Int), (b : Int), (c : Int), (d : Int)]))
section
variable (w0 w1 w2 w3 a b c d : Nat)
theorem pre_d : pre w1 w2 w3 a b c (d + 1) = pre w1 w2 w3 a b c d ++ [[(a : Int), (b : Int), (c : Int), (d : Int) + 1]] := by
  unfold pre
  rw [List.range_succ (n := d + 1), List.map_append]
  simp [List.append_assoc]
theorem pre_c : pre w1 w2 w3 a b (c + 1) 0 = pre w1 w2 w3 a b c w3 ++ [[(a : Int), (b : Int), (c : Int) + 1, 0]] := by
  unfold pre
  rw [List.range_succ (n := c), List.flatMap_append]
  simp [List.append_assoc, full3]
theorem pre_b : pre w1 w2 w3 a (b + 1) 0 0 = pre w1 w2 w3 a b w2 w3 ++ [[(a : Int), (b : Int) + 1, 0, 0]] := by
  unfold pre
  rw [List.range_succ (n := b), List.flatMap_append]
  have h : full2 w2 w3 a b = (List.range w2).flatMap (fun c => full3 w3 a b c) ++ full3 w3 a b w2 := by
    unfold full2
    rw [List.range_succ, List.flatMap_append]
    simp
  simp [List.append_assoc, h, full3]
theorem pre_a : pre w1 w2 w3 (a + 1) 0 0 0 = pre w1 w2 w3 a w1 w2 w3 ++ [[(a : Int) + 1, 0, 0, 0]] := by
  unfold pre
  rw [List.range_succ (n := a), List.flatMap_append]
  have h : ∀ b, full2 w2 w3 a b = (List.range w2).flatMap (fun c => full3 w3 a b c) ++ full3 w3 a b w2 := fun b => by
    unfold full2
    rw [List.range_succ, List.flatMap_append]
    simp
  have h1 : full1 w1 w2 w3 a = (List.range w1).flatMap (fun b => full2 w2 w3 a b) ++ full2 w2 w3 a w1 := by
    unfold full1
    rw [List.range_succ, List.flatMap_append]
    simp
  rw [h w1] at h1
  simp [List.append_assoc, h1, full3]
theorem pre_all : pre w1 w2 w3 w0 w1 w2 w3 = allQ w0 w1 w2 w3 := by
  unfold pre allQ
  rw [List.range_succ (n := w0), List.flatMap_append]
  simp only [List.flatMap_cons, List.flatMap_nil, List.append_nil]
  congr 1
  unfold full1
  rw [List.range_succ (n := w1), List.flatMap_append]
  simp only [List.flatMap_cons, List.flatMap_nil, List.append_nil]
  congr 1
  unfold full2
  rw [List.range_succ (n := w2), List.flatMap_append]
  simp only [List.flatMap_cons, List.flatMap_nil, List.append_nil]
  rfl
theorem pre_zero : pre w1 w2 w3 0 0 0 0 = [[0, 0, 0, 0]] := rfl
end
theorem pre_len4 (w1 w2 w3 a b c d : Nat) : ∀ v ∈ pre w1 w2 w3 a b c d, v.length = 4 := by
  have h3 : ∀ a b c, ∀ v ∈ full3 w3 a b c, v.length = 4 := by
    intro a b c v hv
    unfold full3 at hv
    obtain ⟨d, _, rfl⟩ := List.mem_map.1 hv
    rfl
  have h2 : ∀ a b, ∀ v ∈ full2 w2 w3 a b, v.length = 4 := by
    intro a b v hv
    unfold full2 at hv
    obtain ⟨c, _, hv⟩ := List.mem_flatMap.1 hv
    exact h3 a b c v hv
  have h1 : ∀ a, ∀ v ∈ full1 w1 w2 w3 a, v.length = 4 := by
    intro a v hv
    unfold full1 at hv
    obtain ⟨c, _, hv⟩ := List.mem_flatMap.1 hv
    exact h2 a c v hv
  intro v hv
  unfold pre at hv
  rcases List.mem_append.1 hv with hv | hv
  · obtain ⟨a, _, hv⟩ := List.mem_flatMap.1 hv
    exact h1 a v hv
  · rcases List.mem_append.1 hv with hv | hv
    · obtain ⟨b, _, hv⟩ := List.mem_flatMap.1 hv
      exact h2 a b v hv
    · rcases List.mem_append.1 hv with hv | hv
      · obtain ⟨c, _, hv⟩ := List.mem_flatMap.1 hv
        exact h3 a b c v hv
      · obtain ⟨d, _, rfl⟩ := List.mem_map.1 hv
        rfl
structure N4 where
  a : Nat
  b : Nat
  c : Nat
  d : Nat
def allN (ds : List Dm) (m : Int) : List (List Int) := if goodC ds m = true then allQ (wOf ds 0) (wOf ds 1) (wOf ds 2) (wOf ds 3) else []
theorem all_ev (ds : List Dm) (m : Int) (hC : okC ds) : cvT tab 10 [.agg [.ro ds.length (flatD ds), .int .i64 m]] = some (rN (allN ds m)) := by
  refine cvTA_R (mf := Mf.f10) rfl rfl (by kernel_rfl) ?_
  simp only [Mf.f10]
  have hwh := whole_ev ds m hC
  cases g : goodC ds m with
  | false => simp [beqI, bneI, mm_min2, mm_max2, mm_min3, mm_max3, startE, lkE, lkX, lkE_rest, sx, substE, opVA, objs0, List.replicate, XA_seq, XA_region, XOA_go, goE_someA, opV, ev, putA, layAll, XOA_nil, XA_skip_seq, XA_skip_nil, XOA_gd, goG_tA, goG_uA, binV, binInt, unV, XA_ret_nil, XA_ret_cons, endFA_r, endFA_n, endTA_r, endTA_n, endRA_r, endRA_n, fltR, resultsA, resAs, resA, XA_block, XA_cond, pickX_t, pickX_f, pickX_b, XA_skip_blk, XA_skip_lp, XA_exit_seq, XA_exit_lp, XA_exit_blk, XA_exit_nil, load1, Ev.loadCells, objCells, bodyCells, setCells, AV.flat, AV.flat1, backR, backV, backCell, mapO, AV.cells, AV.atom, AV.tree, fillV, repeatL, treeCell, freezeAll, eqCells, callV_T, callV_F, passV, passCell, srcCells, sliceBounds, hiB, loB, thenQ_nA, thenQ_xA, thenQ_rA, runK_nA, runK_xA, runK_rA, wrap_i64, wrap_u64, wrap_u32, wrap_u8, wrap_u16, sgood_ev ds m hC, g, allN, rN, flatN]
  | true =>
    have b0 := wOf_le g 0
    have b1 := wOf_le g 1
    have b2 := wOf_le g 2
    have b3 := wOf_le g 3
    have hall : allN ds m = allQ (wOf ds 0) (wOf ds 1) (wOf ds 2) (wOf ds 3) := by unfold allN; rw [if_pos g]
    rw [hall]
    unfold wholeN at hwh
    rw [if_pos g] at hwh
    generalize wOf ds 0 = w0 at *
    generalize wOf ds 1 = w1 at *
    generalize wOf ds 2 = w2 at *
    generalize wOf ds 3 = w3 at *
    simp only [List.map] at hwh
    have hn : ∀ (a b c d : Nat), a ≤ w0 → b ≤ w1 → c ≤ w2 → d ≤ w3 → cvF tab 36 [.agg [.int .u8 a, .int .u8 b, .int .u8 c, .int .u8 d], .agg [.int .u8 w0, .int .u8 w1, .int .u8 w2, .int .u8 w3]] = some (.agg ((nextN [(a : Int), (b : Int), (c : Int), (d : Int)] [(w0 : Int), (w1 : Int), (w2 : Int), (w3 : Int)]).map (.int .u8))) := by
      intro a b c d ha hb hc hd
      have := next_ev [(a : Int), (b : Int), (c : Int), (d : Int)] [(w0 : Int), (w1 : Int), (w2 : Int), (w3 : Int)] (okN4 ⟨by omega, by omega⟩ ⟨by omega, by omega⟩ ⟨by omega, by omega⟩ ⟨by omega, by omega⟩) (okN4 ⟨by omega, by omega⟩ ⟨by omega, by omega⟩ ⟨by omega, by omega⟩ ⟨by omega, by omega⟩)
      simpa only [List.map] using this
    simp [beqI, bneI, mm_min2, mm_max2, mm_min3, mm_max3, startE, lkE, lkX, lkE_rest, sx, substE, opVA, objs0, List.replicate, XA_seq, XA_region, XOA_go, goE_someA, opV, ev, putA, layAll, XOA_nil, XA_skip_seq, XA_skip_nil, XOA_gd, goG_tA, goG_uA, binV, binInt, unV, XA_ret_nil, XA_ret_cons, endFA_r, endFA_n, endTA_r, endTA_n, endRA_r, endRA_n, fltR, resultsA, resAs, resA, XA_block, XA_cond, pickX_t, pickX_f, pickX_b, XA_skip_blk, XA_skip_lp, XA_exit_seq, XA_exit_lp, XA_exit_blk, XA_exit_nil, load1, Ev.loadCells, objCells, bodyCells, setCells, AV.flat, AV.flat1, backR, backV, backCell, mapO, AV.cells, AV.atom, AV.tree, fillV, repeatL, treeCell, freezeAll, eqCells, callV_T, callV_F, passV, passCell, srcCells, sliceBounds, hiB, loB, thenQ_nA, thenQ_xA, thenQ_rA, runK_nA, runK_xA, runK_rA, wrap_i64, wrap_u64, wrap_u32, wrap_u8, wrap_u16, sgood_ev ds m hC, g, base_ev, hwh]
    refine XA_loop (α := N4) (fun x => ⟨[(3, .own 1 0 0 (pre w1 w2 w3 x.a x.b x.c x.d).length 4), (4, .ptr 2 0 0), (5, .ptr 3 0 0)], [⟨0, .none⟩, ⟨0, .row true 4 (flatN (pre w1 w2 w3 x.a x.b x.c x.d))⟩, ⟨0, .var [.int .u8 x.a, .int .u8 x.b, .int .u8 x.c, .int .u8 x.d]⟩, ⟨0, .var [.int .u8 w0, .int .u8 w1, .int .u8 w2, .int .u8 w3]⟩]⟩)
      (fun x => x.a ≤ w0 ∧ x.b ≤ w1 ∧ x.c ≤ w2 ∧ x.d ≤ w3 ∧ (pre w1 w2 w3 x.a x.b x.c x.d).length ≤ 125 * x.a + 25 * x.b + 5 * x.c + x.d + 1) (fun x => 1000 - (125 * x.a + 25 * x.b + 5 * x.c + x.d)) ⟨0, 0, 0, 0⟩ (by simp [AV.atom, normA, lkE, fixObjs, fixBody, fixV, fixCell, pre_zero, flatN]) (by simp [pre_zero]) ?_
    rintro ⟨a, b, c, d⟩ ⟨ha, hb, hc, hd, hlen⟩
    simp only at ha hb hc hd hlen
    have hnx := hn a b c d ha hb hc hd
    have hfl := flatN_len (pre_len4 w1 w2 w3 a b c d)
    have q1 : ((pre w1 w2 w3 a b c d).length + 1) * 4 ≤ 140737488355328 := by omega
    have q2 : (pre w1 w2 w3 a b c d).length + 1 < 4611686018427387904 := by omega
    by_cases h1 : d < w3
    · have h1' : (d : Int) < (w3 : Int) := by omega
      have hne : ¬ (d : Int) = (w3 : Int) := by omega
      simp only [nextN, h1', if_true, List.map] at hnx
      simp [beqI, bneI, mm_min2, mm_max2, mm_min3, mm_max3, startE, lkE, lkX, lkE_rest, sx, substE, opVA, objs0, List.replicate, XA_seq, XA_region, XOA_go, goE_someA, opV, ev, putA, layAll, XOA_nil, XA_skip_seq, XA_skip_nil, XOA_gd, goG_tA, goG_uA, binV, binInt, unV, XA_ret_nil, XA_ret_cons, endFA_r, endFA_n, endTA_r, endTA_n, endRA_r, endRA_n, fltR, resultsA, resAs, resA, XA_block, XA_cond, pickX_t, pickX_f, pickX_b, XA_skip_blk, XA_skip_lp, XA_exit_seq, XA_exit_lp, XA_exit_blk, XA_exit_nil, load1, Ev.loadCells, objCells, bodyCells, setCells, AV.flat, AV.flat1, backR, backV, backCell, mapO, AV.cells, AV.atom, AV.tree, fillV, repeatL, treeCell, freezeAll, eqCells, callV_T, callV_F, passV, passCell, srcCells, sliceBounds, hiB, loB, thenQ_nA, thenQ_xA, thenQ_rA, runK_nA, runK_xA, runK_rA, wrap_i64, wrap_u64, wrap_u32, wrap_u8, wrap_u16, AV.atom, normA, lkE, fixObjs, fixBody, fixV, fixCell, hne, hnx, q1, q2, hfl]
      exact ⟨⟨a, b, c, d + 1⟩, by simp [pre_d, flatN_append, flatN, ha, hb, hc]; omega⟩
    · have h1' : ¬ (d : Int) < (w3 : Int) := by omega
      have e1 : d = w3 := by omega
      by_cases h2 : c < w2
      · have h2' : (c : Int) < (w2 : Int) := by omega
        have hne : ¬ (c : Int) = (w2 : Int) := by omega
        simp only [nextN, h1', h2', if_true, if_false, List.map] at hnx
        subst e1
        simp [beqI, bneI, mm_min2, mm_max2, mm_min3, mm_max3, startE, lkE, lkX, lkE_rest, sx, substE, opVA, objs0, List.replicate, XA_seq, XA_region, XOA_go, goE_someA, opV, ev, putA, layAll, XOA_nil, XA_skip_seq, XA_skip_nil, XOA_gd, goG_tA, goG_uA, binV, binInt, unV, XA_ret_nil, XA_ret_cons, endFA_r, endFA_n, endTA_r, endTA_n, endRA_r, endRA_n, fltR, resultsA, resAs, resA, XA_block, XA_cond, pickX_t, pickX_f, pickX_b, XA_skip_blk, XA_skip_lp, XA_exit_seq, XA_exit_lp, XA_exit_blk, XA_exit_nil, load1, Ev.loadCells, objCells, bodyCells, setCells, AV.flat, AV.flat1, backR, backV, backCell, mapO, AV.cells, AV.atom, AV.tree, fillV, repeatL, treeCell, freezeAll, eqCells, callV_T, callV_F, passV, passCell, srcCells, sliceBounds, hiB, loB, thenQ_nA, thenQ_xA, thenQ_rA, runK_nA, runK_xA, runK_rA, wrap_i64, wrap_u64, wrap_u32, wrap_u8, wrap_u16, AV.atom, normA, lkE, fixObjs, fixBody, fixV, fixCell, hne, hnx, q1, q2, hfl]
        exact ⟨⟨a, b, c + 1, 0⟩, by simp [pre_c, flatN_append, flatN, ha, hb]; omega⟩
      · have h2' : ¬ (c : Int) < (w2 : Int) := by omega
        have e2 : c = w2 := by omega
        by_cases h3 : b < w1
        · have h3' : (b : Int) < (w1 : Int) := by omega
          have hne : ¬ (b : Int) = (w1 : Int) := by omega
          simp only [nextN, h1', h2', h3', if_true, if_false, List.map] at hnx
          subst e1 e2
          simp [beqI, bneI, mm_min2, mm_max2, mm_min3, mm_max3, startE, lkE, lkX, lkE_rest, sx, substE, opVA, objs0, List.replicate, XA_seq, XA_region, XOA_go, goE_someA, opV, ev, putA, layAll, XOA_nil, XA_skip_seq, XA_skip_nil, XOA_gd, goG_tA, goG_uA, binV, binInt, unV, XA_ret_nil, XA_ret_cons, endFA_r, endFA_n, endTA_r, endTA_n, endRA_r, endRA_n, fltR, resultsA, resAs, resA, XA_block, XA_cond, pickX_t, pickX_f, pickX_b, XA_skip_blk, XA_skip_lp, XA_exit_seq, XA_exit_lp, XA_exit_blk, XA_exit_nil, load1, Ev.loadCells, objCells, bodyCells, setCells, AV.flat, AV.flat1, backR, backV, backCell, mapO, AV.cells, AV.atom, AV.tree, fillV, repeatL, treeCell, freezeAll, eqCells, callV_T, callV_F, passV, passCell, srcCells, sliceBounds, hiB, loB, thenQ_nA, thenQ_xA, thenQ_rA, runK_nA, runK_xA, runK_rA, wrap_i64, wrap_u64, wrap_u32, wrap_u8, wrap_u16, AV.atom, normA, lkE, fixObjs, fixBody, fixV, fixCell, hne, hnx, q1, q2, hfl]
          exact ⟨⟨a, b + 1, 0, 0⟩, by simp [pre_b, flatN_append, flatN, ha]; omega⟩
        · have h3' : ¬ (b : Int) < (w1 : Int) := by omega
          have e3 : b = w1 := by omega
          by_cases h4 : a < w0
          · have h4' : (a : Int) < (w0 : Int) := by omega
            have hne : ¬ (a : Int) = (w0 : Int) := by omega
            simp only [nextN, h1', h2', h3', h4', if_true, if_false, List.map] at hnx
            subst e1 e2 e3
            simp [beqI, bneI, mm_min2, mm_max2, mm_min3, mm_max3, startE, lkE, lkX, lkE_rest, sx, substE, opVA, objs0, List.replicate, XA_seq, XA_region, XOA_go, goE_someA, opV, ev, putA, layAll, XOA_nil, XA_skip_seq, XA_skip_nil, XOA_gd, goG_tA, goG_uA, binV, binInt, unV, XA_ret_nil, XA_ret_cons, endFA_r, endFA_n, endTA_r, endTA_n, endRA_r, endRA_n, fltR, resultsA, resAs, resA, XA_block, XA_cond, pickX_t, pickX_f, pickX_b, XA_skip_blk, XA_skip_lp, XA_exit_seq, XA_exit_lp, XA_exit_blk, XA_exit_nil, load1, Ev.loadCells, objCells, bodyCells, setCells, AV.flat, AV.flat1, backR, backV, backCell, mapO, AV.cells, AV.atom, AV.tree, fillV, repeatL, treeCell, freezeAll, eqCells, callV_T, callV_F, passV, passCell, srcCells, sliceBounds, hiB, loB, thenQ_nA, thenQ_xA, thenQ_rA, runK_nA, runK_xA, runK_rA, wrap_i64, wrap_u64, wrap_u32, wrap_u8, wrap_u16, AV.atom, normA, lkE, fixObjs, fixBody, fixV, fixCell, hne, hnx, q1, q2, hfl]
            exact ⟨⟨a + 1, 0, 0, 0⟩, by simp [pre_a, flatN_append, flatN]; omega⟩
          · have e4 : a = w0 := by omega
            subst e1 e2 e3 e4
            simp [beqI, bneI, mm_min2, mm_max2, mm_min3, mm_max3, startE, lkE, lkX, lkE_rest, sx, substE, opVA, objs0, List.replicate, XA_seq, XA_region, XOA_go, goE_someA, opV, ev, putA, layAll, XOA_nil, XA_skip_seq, XA_skip_nil, XOA_gd, goG_tA, goG_uA, binV, binInt, unV, XA_ret_nil, XA_ret_cons, endFA_r, endFA_n, endTA_r, endTA_n, endRA_r, endRA_n, fltR, resultsA, resAs, resA, XA_block, XA_cond, pickX_t, pickX_f, pickX_b, XA_skip_blk, XA_skip_lp, XA_exit_seq, XA_exit_lp, XA_exit_blk, XA_exit_nil, load1, Ev.loadCells, objCells, bodyCells, setCells, AV.flat, AV.flat1, backR, backV, backCell, mapO, AV.cells, AV.atom, AV.tree, fillV, repeatL, treeCell, freezeAll, eqCells, callV_T, callV_F, passV, passCell, srcCells, sliceBounds, hiB, loB, thenQ_nA, thenQ_xA, thenQ_rA, runK_nA, runK_xA, runK_rA, wrap_i64, wrap_u64, wrap_u32, wrap_u8, wrap_u16, AV.atom, normA, lkE, fixObjs, fixBody, fixV, fixCell, hfl, pre_all, rN, List.take_of_length_le]
            rw [← pre_all, List.take_of_length_le (by omega)]
            exact ⟨by omega, rfl⟩
/-! ### What a node covers -/
theorem goodAt {ds : List Dm} {m : Int} (g : goodC ds m = true) {v : List Int} (hv : okN v) {i : Nat} (hi : i < 4) : rightAt ds v zero4 i = decide (gI v i ≤ wOf ds i) := by
  have hb := hv.at hi
  unfold byte at hb
  have hz : gI zero4 i = 0 := by
    have : i = 0 ∨ i = 1 ∨ i = 2 ∨ i = 3 := by omega
    rcases this with rfl | rfl | rfl | rfl <;> rfl
  unfold rightAt wOf
  by_cases c : i < ds.length
  · rw [if_pos c, if_pos c, hz]
    have gd := goodC_at g c
    by_cases h : gI v i ≤ ((gD ds i).S.length : Int)
    · have hs : 0 < sizeD (gD ds i).S (gD ds i).U (gI v i) := by
        unfold sizeD
        rw [if_pos ⟨gd, hb.1, h⟩]
        split
        · omega
        · have := good_size gd (i := (gI v i).toNat) (by omega)
          omega
      rw [decide_eq_true h, decide_eq_true hs]
    · have hs : sizeD (gD ds i).S (gD ds i).U (gI v i) = 0 := by
        unfold sizeD
        rw [if_neg (fun c => h c.2.2)]
      rw [decide_eq_false h, hs]
      rfl
  · rw [if_neg c, if_neg c, hz]
    by_cases h : gI v i = 0
    · simp [h]
    · have h' : ¬ gI v i ≤ ((0 : Nat) : Int) := by omega
      rw [decide_eq_false h', decide_eq_false h]
      rfl
theorem goodN_iff {ds : List Dm} {m : Int} (g : goodC ds m = true) {v : List Int} (hv : okN v) : goodN ds m v = true ↔ gI v 0 ≤ wOf ds 0 ∧ gI v 1 ≤ wOf ds 1 ∧ gI v 2 ≤ wOf ds 2 ∧ gI v 3 ≤ wOf ds 3 := by
  unfold goodN rightC
  have hr : List.range 4 = [0, 1, 2, 3] := rfl
  rw [g, hr]
  simp [goodAt g hv]
def coversP (ds : List Dm) (v : List Int) (n : Nat) : List (List Int) := ((List.range n).filter fun i => decide (gI v i < wOf ds i)).map fun i => v.set i (gI v i + 1)
def coversN (ds : List Dm) (m : Int) (v : List Int) : List (List Int) := if goodN ds m v = true then coversP ds v ds.length else []
theorem coversP_succ (ds : List Dm) (v : List Int) (i : Nat) : coversP ds v (i + 1) = if gI v i < wOf ds i then coversP ds v i ++ [v.set i (gI v i + 1)] else coversP ds v i := by
  unfold coversP
  rw [List.range_succ, List.filter_append, List.map_append]
  by_cases h : gI v i < wOf ds i <;> simp [h]
theorem coversP_len (ds : List Dm) (v : List Int) (n : Nat) : (coversP ds v n).length ≤ n := by
  unfold coversP
  rw [List.length_map]
  have := List.length_filter_le (fun i => decide (gI v i < wOf ds i)) (List.range n)
  rw [List.length_range] at this
  exact this
theorem coversP_len4 (ds : List Dm) {v : List Int} (hv : v.length = 4) (n : Nat) : ∀ w ∈ coversP ds v n, w.length = 4 := by
  intro w hw
  unfold coversP at hw
  obtain ⟨i, _, rfl⟩ := List.mem_map.1 hw
  rw [List.length_set, hv]
theorem covers_ev (ds : List Dm) (m : Int) (v : List Int) (hC : okC ds) (hv : okN v) : cvT tab 23 [.agg [.ro ds.length (flatD ds), .int .i64 m], .agg (v.map (.int .u8))] = some (rN (coversN ds m v)) := by
  refine cvTA_R (mf := Mf.f23) rfl rfl (by kernel_rfl) ?_
  simp only [Mf.f23]
  have e := lgood_ev ds m v hC hv
  have hwh := whole_ev ds m hC
  have hP4 := coversP_len4 ds hv.1
  obtain ⟨a, b, c, d, hvv, ha, hb, hc, hd⟩ := four hv
  cases g : goodN ds m v with
  | false =>
    rw [g, hvv] at e
    subst hvv
    simp only [List.map] at e
    simp [beqI, bneI, mm_min2, mm_max2, mm_min3, mm_max3, startE, lkE, lkX, lkE_rest, sx, substE, opVA, objs0, List.replicate, XA_seq, XA_region, XOA_go, goE_someA, opV, ev, putA, layAll, XOA_nil, XA_skip_seq, XA_skip_nil, XOA_gd, goG_tA, goG_uA, binV, binInt, unV, XA_ret_nil, XA_ret_cons, endFA_r, endFA_n, endTA_r, endTA_n, endRA_r, endRA_n, fltR, resultsA, resAs, resA, XA_block, XA_cond, pickX_t, pickX_f, pickX_b, XA_skip_blk, XA_skip_lp, XA_exit_seq, XA_exit_lp, XA_exit_blk, XA_exit_nil, load1, Ev.loadCells, objCells, bodyCells, setCells, AV.flat, AV.flat1, backR, backV, backCell, mapO, AV.cells, AV.atom, AV.tree, fillV, repeatL, treeCell, freezeAll, eqCells, callV_T, callV_F, passV, passCell, srcCells, sliceBounds, hiB, loB, thenQ_nA, thenQ_xA, thenQ_rA, runK_nA, runK_xA, runK_rA, wrap_i64, wrap_u64, wrap_u32, wrap_u8, wrap_u16, e, g, coversN, rN, flatN]
  | true =>
    have gc := goodN_good g
    have hl := goodC_len gc
    have hgi := (goodN_iff gc hv).1 g
    have b0 := wOf_le gc 0
    have b1 := wOf_le gc 1
    have b2 := wOf_le gc 2
    have b3 := wOf_le gc 3
    unfold wholeN at hwh
    rw [if_pos gc] at hwh
    rw [g, hvv] at e
    simp only [List.map] at e hwh
    subst hvv
    simp [gI] at hgi
    unfold byte at *
    simp [beqI, bneI, mm_min2, mm_max2, mm_min3, mm_max3, startE, lkE, lkX, lkE_rest, sx, substE, opVA, objs0, List.replicate, XA_seq, XA_region, XOA_go, goE_someA, opV, ev, putA, layAll, XOA_nil, XA_skip_seq, XA_skip_nil, XOA_gd, goG_tA, goG_uA, binV, binInt, unV, XA_ret_nil, XA_ret_cons, endFA_r, endFA_n, endTA_r, endTA_n, endRA_r, endRA_n, fltR, resultsA, resAs, resA, XA_block, XA_cond, pickX_t, pickX_f, pickX_b, XA_skip_blk, XA_skip_lp, XA_exit_seq, XA_exit_lp, XA_exit_blk, XA_exit_nil, load1, Ev.loadCells, objCells, bodyCells, setCells, AV.flat, AV.flat1, backR, backV, backCell, mapO, AV.cells, AV.atom, AV.tree, fillV, repeatL, treeCell, freezeAll, eqCells, callV_T, callV_F, passV, passCell, srcCells, sliceBounds, hiB, loB, thenQ_nA, thenQ_xA, thenQ_rA, runK_nA, runK_xA, runK_rA, wrap_i64, wrap_u64, wrap_u32, wrap_u8, wrap_u16, e, g, hwh, coversN]
    refine XA_for (fun i => ⟨[(3, .ptr 1 0 0), (5, .own 2 0 0 (coversP ds [a, b, c, d] i).length 4), (6, .ptr 3 0 0), (17, .int .i64 ds.length), (18, .int .i64 i)], [⟨0, .none⟩, ⟨0, .var [.int .u8 a, .int .u8 b, .int .u8 c, .int .u8 d]⟩, ⟨0, .row true 4 (flatN (coversP ds [a, b, c, d] i))⟩, ⟨0, .var [.int .u8 (wOf ds 0), .int .u8 (wOf ds 1), .int .u8 (wOf ds 2), .int .u8 (wOf ds 3)]⟩, ⟨0, .none⟩]⟩)
      (fun _ => True) ds.length 0 (Nat.zero_le _) (by simp [AV.atom, normA, lkE, fixObjs, fixBody, fixV, fixCell, coversP, flatN]) trivial ?_ ?_
    · intro i _ hi _
      have hi' : (i : Int) < ds.length := by omega
      have hfl := flatN_len (hP4 i)
      have hle := coversP_len ds [a, b, c, d] i
      have q1 : ((coversP ds [a, b, c, d] i).length + 1) * 4 ≤ 140737488355328 := by omega
      have q2 : (coversP ds [a, b, c, d] i).length + 1 < 4611686018427387904 := by omega
      have hws := wrap_succ i ds.length hi (by omega)
      have hsucc := coversP_succ ds [a, b, c, d] i
      have h4 : i = 0 ∨ i = 1 ∨ i = 2 ∨ i = 3 := by omega
      rcases h4 with rfl | rfl | rfl | rfl
      · simp [gI] at hsucc hi' hws hfl q1 q2
        by_cases h : a < (wOf ds 0 : Int)
        · have hwr : IntKind.u8.wrap (a + 1) = a + 1 := wrap_u8 (by omega) (by omega)
          simp [beqI, bneI, mm_min2, mm_max2, mm_min3, mm_max3, startE, lkE, lkX, lkE_rest, sx, substE, opVA, objs0, List.replicate, XA_seq, XA_region, XOA_go, goE_someA, opV, ev, putA, layAll, XOA_nil, XA_skip_seq, XA_skip_nil, XOA_gd, goG_tA, goG_uA, binV, binInt, unV, XA_ret_nil, XA_ret_cons, endFA_r, endFA_n, endTA_r, endTA_n, endRA_r, endRA_n, fltR, resultsA, resAs, resA, XA_block, XA_cond, pickX_t, pickX_f, pickX_b, XA_skip_blk, XA_skip_lp, XA_exit_seq, XA_exit_lp, XA_exit_blk, XA_exit_nil, load1, Ev.loadCells, objCells, bodyCells, setCells, AV.flat, AV.flat1, backR, backV, backCell, mapO, AV.cells, AV.atom, AV.tree, fillV, repeatL, treeCell, freezeAll, eqCells, callV_T, callV_F, passV, passCell, srcCells, sliceBounds, hiB, loB, thenQ_nA, thenQ_xA, thenQ_rA, runK_nA, runK_xA, runK_rA, wrap_i64, wrap_u64, wrap_u32, wrap_u8, wrap_u16, AV.atom, normA, lkE, fixObjs, fixBody, fixV, fixCell, hi, hi', h, hwr, hfl, q1, q2, hsucc, hws, flatN_append, flatN]
        · simp [beqI, bneI, mm_min2, mm_max2, mm_min3, mm_max3, startE, lkE, lkX, lkE_rest, sx, substE, opVA, objs0, List.replicate, XA_seq, XA_region, XOA_go, goE_someA, opV, ev, putA, layAll, XOA_nil, XA_skip_seq, XA_skip_nil, XOA_gd, goG_tA, goG_uA, binV, binInt, unV, XA_ret_nil, XA_ret_cons, endFA_r, endFA_n, endTA_r, endTA_n, endRA_r, endRA_n, fltR, resultsA, resAs, resA, XA_block, XA_cond, pickX_t, pickX_f, pickX_b, XA_skip_blk, XA_skip_lp, XA_exit_seq, XA_exit_lp, XA_exit_blk, XA_exit_nil, load1, Ev.loadCells, objCells, bodyCells, setCells, AV.flat, AV.flat1, backR, backV, backCell, mapO, AV.cells, AV.atom, AV.tree, fillV, repeatL, treeCell, freezeAll, eqCells, callV_T, callV_F, passV, passCell, srcCells, sliceBounds, hiB, loB, thenQ_nA, thenQ_xA, thenQ_rA, runK_nA, runK_xA, runK_rA, wrap_i64, wrap_u64, wrap_u32, wrap_u8, wrap_u16, AV.atom, normA, lkE, fixObjs, fixBody, fixV, fixCell, hi, hi', h, hsucc, hws]
      · simp [gI] at hsucc hi' hws hfl q1 q2
        by_cases h : b < (wOf ds 1 : Int)
        · have hwr : IntKind.u8.wrap (b + 1) = b + 1 := wrap_u8 (by omega) (by omega)
          simp [beqI, bneI, mm_min2, mm_max2, mm_min3, mm_max3, startE, lkE, lkX, lkE_rest, sx, substE, opVA, objs0, List.replicate, XA_seq, XA_region, XOA_go, goE_someA, opV, ev, putA, layAll, XOA_nil, XA_skip_seq, XA_skip_nil, XOA_gd, goG_tA, goG_uA, binV, binInt, unV, XA_ret_nil, XA_ret_cons, endFA_r, endFA_n, endTA_r, endTA_n, endRA_r, endRA_n, fltR, resultsA, resAs, resA, XA_block, XA_cond, pickX_t, pickX_f, pickX_b, XA_skip_blk, XA_skip_lp, XA_exit_seq, XA_exit_lp, XA_exit_blk, XA_exit_nil, load1, Ev.loadCells, objCells, bodyCells, setCells, AV.flat, AV.flat1, backR, backV, backCell, mapO, AV.cells, AV.atom, AV.tree, fillV, repeatL, treeCell, freezeAll, eqCells, callV_T, callV_F, passV, passCell, srcCells, sliceBounds, hiB, loB, thenQ_nA, thenQ_xA, thenQ_rA, runK_nA, runK_xA, runK_rA, wrap_i64, wrap_u64, wrap_u32, wrap_u8, wrap_u16, AV.atom, normA, lkE, fixObjs, fixBody, fixV, fixCell, hi, hi', h, hwr, hfl, q1, q2, hsucc, hws, flatN_append, flatN]
        · simp [beqI, bneI, mm_min2, mm_max2, mm_min3, mm_max3, startE, lkE, lkX, lkE_rest, sx, substE, opVA, objs0, List.replicate, XA_seq, XA_region, XOA_go, goE_someA, opV, ev, putA, layAll, XOA_nil, XA_skip_seq, XA_skip_nil, XOA_gd, goG_tA, goG_uA, binV, binInt, unV, XA_ret_nil, XA_ret_cons, endFA_r, endFA_n, endTA_r, endTA_n, endRA_r, endRA_n, fltR, resultsA, resAs, resA, XA_block, XA_cond, pickX_t, pickX_f, pickX_b, XA_skip_blk, XA_skip_lp, XA_exit_seq, XA_exit_lp, XA_exit_blk, XA_exit_nil, load1, Ev.loadCells, objCells, bodyCells, setCells, AV.flat, AV.flat1, backR, backV, backCell, mapO, AV.cells, AV.atom, AV.tree, fillV, repeatL, treeCell, freezeAll, eqCells, callV_T, callV_F, passV, passCell, srcCells, sliceBounds, hiB, loB, thenQ_nA, thenQ_xA, thenQ_rA, runK_nA, runK_xA, runK_rA, wrap_i64, wrap_u64, wrap_u32, wrap_u8, wrap_u16, AV.atom, normA, lkE, fixObjs, fixBody, fixV, fixCell, hi, hi', h, hsucc, hws]
      · simp [gI] at hsucc hi' hws hfl q1 q2
        by_cases h : c < (wOf ds 2 : Int)
        · have hwr : IntKind.u8.wrap (c + 1) = c + 1 := wrap_u8 (by omega) (by omega)
          simp [beqI, bneI, mm_min2, mm_max2, mm_min3, mm_max3, startE, lkE, lkX, lkE_rest, sx, substE, opVA, objs0, List.replicate, XA_seq, XA_region, XOA_go, goE_someA, opV, ev, putA, layAll, XOA_nil, XA_skip_seq, XA_skip_nil, XOA_gd, goG_tA, goG_uA, binV, binInt, unV, XA_ret_nil, XA_ret_cons, endFA_r, endFA_n, endTA_r, endTA_n, endRA_r, endRA_n, fltR, resultsA, resAs, resA, XA_block, XA_cond, pickX_t, pickX_f, pickX_b, XA_skip_blk, XA_skip_lp, XA_exit_seq, XA_exit_lp, XA_exit_blk, XA_exit_nil, load1, Ev.loadCells, objCells, bodyCells, setCells, AV.flat, AV.flat1, backR, backV, backCell, mapO, AV.cells, AV.atom, AV.tree, fillV, repeatL, treeCell, freezeAll, eqCells, callV_T, callV_F, passV, passCell, srcCells, sliceBounds, hiB, loB, thenQ_nA, thenQ_xA, thenQ_rA, runK_nA, runK_xA, runK_rA, wrap_i64, wrap_u64, wrap_u32, wrap_u8, wrap_u16, AV.atom, normA, lkE, fixObjs, fixBody, fixV, fixCell, hi, hi', h, hwr, hfl, q1, q2, hsucc, hws, flatN_append, flatN]
        · simp [beqI, bneI, mm_min2, mm_max2, mm_min3, mm_max3, startE, lkE, lkX, lkE_rest, sx, substE, opVA, objs0, List.replicate, XA_seq, XA_region, XOA_go, goE_someA, opV, ev, putA, layAll, XOA_nil, XA_skip_seq, XA_skip_nil, XOA_gd, goG_tA, goG_uA, binV, binInt, unV, XA_ret_nil, XA_ret_cons, endFA_r, endFA_n, endTA_r, endTA_n, endRA_r, endRA_n, fltR, resultsA, resAs, resA, XA_block, XA_cond, pickX_t, pickX_f, pickX_b, XA_skip_blk, XA_skip_lp, XA_exit_seq, XA_exit_lp, XA_exit_blk, XA_exit_nil, load1, Ev.loadCells, objCells, bodyCells, setCells, AV.flat, AV.flat1, backR, backV, backCell, mapO, AV.cells, AV.atom, AV.tree, fillV, repeatL, treeCell, freezeAll, eqCells, callV_T, callV_F, passV, passCell, srcCells, sliceBounds, hiB, loB, thenQ_nA, thenQ_xA, thenQ_rA, runK_nA, runK_xA, runK_rA, wrap_i64, wrap_u64, wrap_u32, wrap_u8, wrap_u16, AV.atom, normA, lkE, fixObjs, fixBody, fixV, fixCell, hi, hi', h, hsucc, hws]
      · simp [gI] at hsucc hi' hws hfl q1 q2
        by_cases h : d < (wOf ds 3 : Int)
        · have hwr : IntKind.u8.wrap (d + 1) = d + 1 := wrap_u8 (by omega) (by omega)
          simp [beqI, bneI, mm_min2, mm_max2, mm_min3, mm_max3, startE, lkE, lkX, lkE_rest, sx, substE, opVA, objs0, List.replicate, XA_seq, XA_region, XOA_go, goE_someA, opV, ev, putA, layAll, XOA_nil, XA_skip_seq, XA_skip_nil, XOA_gd, goG_tA, goG_uA, binV, binInt, unV, XA_ret_nil, XA_ret_cons, endFA_r, endFA_n, endTA_r, endTA_n, endRA_r, endRA_n, fltR, resultsA, resAs, resA, XA_block, XA_cond, pickX_t, pickX_f, pickX_b, XA_skip_blk, XA_skip_lp, XA_exit_seq, XA_exit_lp, XA_exit_blk, XA_exit_nil, load1, Ev.loadCells, objCells, bodyCells, setCells, AV.flat, AV.flat1, backR, backV, backCell, mapO, AV.cells, AV.atom, AV.tree, fillV, repeatL, treeCell, freezeAll, eqCells, callV_T, callV_F, passV, passCell, srcCells, sliceBounds, hiB, loB, thenQ_nA, thenQ_xA, thenQ_rA, runK_nA, runK_xA, runK_rA, wrap_i64, wrap_u64, wrap_u32, wrap_u8, wrap_u16, AV.atom, normA, lkE, fixObjs, fixBody, fixV, fixCell, hi, hi', h, hwr, hfl, q1, q2, hsucc, hws, flatN_append, flatN]
        · simp [beqI, bneI, mm_min2, mm_max2, mm_min3, mm_max3, startE, lkE, lkX, lkE_rest, sx, substE, opVA, objs0, List.replicate, XA_seq, XA_region, XOA_go, goE_someA, opV, ev, putA, layAll, XOA_nil, XA_skip_seq, XA_skip_nil, XOA_gd, goG_tA, goG_uA, binV, binInt, unV, XA_ret_nil, XA_ret_cons, endFA_r, endFA_n, endTA_r, endTA_n, endRA_r, endRA_n, fltR, resultsA, resAs, resA, XA_block, XA_cond, pickX_t, pickX_f, pickX_b, XA_skip_blk, XA_skip_lp, XA_exit_seq, XA_exit_lp, XA_exit_blk, XA_exit_nil, load1, Ev.loadCells, objCells, bodyCells, setCells, AV.flat, AV.flat1, backR, backV, backCell, mapO, AV.cells, AV.atom, AV.tree, fillV, repeatL, treeCell, freezeAll, eqCells, callV_T, callV_F, passV, passCell, srcCells, sliceBounds, hiB, loB, thenQ_nA, thenQ_xA, thenQ_rA, runK_nA, runK_xA, runK_rA, wrap_i64, wrap_u64, wrap_u32, wrap_u8, wrap_u16, AV.atom, normA, lkE, fixObjs, fixBody, fixV, fixCell, hi, hi', h, hsucc, hws]
    · intro _
      have hfl := flatN_len (hP4 ds.length)
      simp [beqI, bneI, mm_min2, mm_max2, mm_min3, mm_max3, startE, lkE, lkX, lkE_rest, sx, substE, opVA, objs0, List.replicate, XA_seq, XA_region, XOA_go, goE_someA, opV, ev, putA, layAll, XOA_nil, XA_skip_seq, XA_skip_nil, XOA_gd, goG_tA, goG_uA, binV, binInt, unV, XA_ret_nil, XA_ret_cons, endFA_r, endFA_n, endTA_r, endTA_n, endRA_r, endRA_n, fltR, resultsA, resAs, resA, XA_block, XA_cond, pickX_t, pickX_f, pickX_b, XA_skip_blk, XA_skip_lp, XA_exit_seq, XA_exit_lp, XA_exit_blk, XA_exit_nil, load1, Ev.loadCells, objCells, bodyCells, setCells, AV.flat, AV.flat1, backR, backV, backCell, mapO, AV.cells, AV.atom, AV.tree, fillV, repeatL, treeCell, freezeAll, eqCells, callV_T, callV_F, passV, passCell, srcCells, sliceBounds, hiB, loB, thenQ_nA, thenQ_xA, thenQ_rA, runK_nA, runK_xA, runK_rA, wrap_i64, wrap_u64, wrap_u32, wrap_u8, wrap_u16, AV.atom, normA, lkE, fixObjs, fixBody, fixV, fixCell, hfl, rN]
      rw [List.take_of_length_le (by omega)]
end Go.Proofs.Ytldijlajoaddnaa
