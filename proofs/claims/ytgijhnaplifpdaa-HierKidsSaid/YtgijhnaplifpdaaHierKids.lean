/- Who is under a member's kids is under it, and nobody else. -/
import Derived.Test.YtgijhnaplifpdaaHierParts
set_option linter.unusedSimpArgs false
set_option linter.unusedVariables false
set_option maxHeartbeats 4000000
set_option maxRecDepth 100000
namespace Go.Proofs.Ytgijhnaplifpdaa
open Go.Ev
/-- Parted by their images: as many as there are. -/
theorem parts_len (f : Nat → Int) (q : Int → Bool) (N : Nat) : ∀ (l : List Nat), (∀ v ∈ l, 0 ≤ f v ∧ f v < N) →
    ((((List.range N).filter fun (c : Nat) => q c).map fun (c : Nat) => (l.filter fun v => decide (f v = c)).length).sum) = (l.filter fun v => q (f v)).length
  | [], _ => by
    have : ∀ (r : List Nat), (r.map fun _ => 0).sum = 0 := fun r => by induction r with
      | nil => rfl
      | cons a r ih => rw [List.map_cons, List.sum_cons, ih]
    simpa using this _
  | v :: l, h => by
    have ih := parts_len f q N l fun w hw => h w (by simp [hw])
    obtain ⟨h0, h1⟩ := h v (by simp)
    have key : ∀ (r : List Nat), r.Nodup → (r.map fun (c : Nat) => ((v :: l).filter fun w => decide (f w = c)).length).sum = (r.map fun (c : Nat) => (l.filter fun w => decide (f w = c)).length).sum + (if (f v).toNat ∈ r then 1 else 0) := by
      intro r
      induction r with
      | nil => intro _; simp
      | cons c r ihr =>
        intro hn
        rw [List.nodup_cons] at hn
        rw [List.map_cons, List.map_cons, List.sum_cons, List.sum_cons, ihr hn.2]
        by_cases e : f v = c
        · have e2 : (f v).toNat = c := by omega
          have e3 : (f v).toNat ∉ r := by rw [e2]; exact hn.1
          have e4 : (f v).toNat ∈ c :: r := by rw [e2]; simp
          rw [if_neg e3, if_pos e4, List.filter_cons, if_pos (by simp [e])]
          simp; omega
        · have e2 : (f v).toNat ≠ c := by omega
          rw [List.filter_cons, if_neg (by simp [e])]
          by_cases e3 : (f v).toNat ∈ r
          · rw [if_pos e3, if_pos (by simp [e3])]; omega
          · rw [if_neg e3, if_neg (by simp [e2, e3])]; omega
    rw [key _ (List.nodup_range.filter _), ih, List.filter_cons]
    have hm : (f v).toNat ∈ ((List.range N).filter fun (c : Nat) => q c) ↔ q (f v) = true := by
      rw [List.mem_filter, List.mem_range, Int.toNat_of_nonneg h0]
      exact ⟨fun h => h.2, fun h => ⟨by omega, h⟩⟩
    by_cases e : q (f v) = true
    · rw [if_pos (hm.2 e), if_pos e]; rfl
    · rw [if_neg (fun c => e (hm.1 c)), if_neg e]; rfl
def sumU (S : List Int) (U : List (List Int)) (b : Int) (l : List Int) : Nat := (l.map fun c => (underD S U b c 0).length).sum
theorem sumU_all (S : List Int) (U : List (List Int)) (g : goodD S U = true) (k : Nat) (x : Int) (hk : k + 1 ≤ S.length) (h0 : 0 ≤ x) (h1 : x < sizeD S U ((k + 1 : Nat) : Int)) :
    sumU S U k (underD S U ((k + 1 : Nat) : Int) x k) = (underD S U ((k + 1 : Nat) : Int) x 0).length := by
  have r0 := sizeD_range S U 0
  have rk := sizeD_range S U k
  unfold sumU
  rw [show underD S U ((k + 1 : Nat) : Int) x k = underP S U ((k + 1 : Nat) : Int) x k (sizeD S U k).toNat from by
    unfold underD; rw [if_pos ⟨by omega, h0, h1⟩]]
  rw [show underD S U ((k + 1 : Nat) : Int) x 0 = underP S U ((k + 1 : Nat) : Int) x 0 (sizeD S U 0).toNat from by
    unfold underD; rw [if_pos ⟨by omega, h0, h1⟩]]
  unfold underP
  rw [List.map_map, List.length_map]
  have hp := parts_len (fun v => liftD S U 0 k (v : Int)) (fun c => decide (liftD S U k (k + 1) c = x)) (sizeD S U k).toNat (List.range (sizeD S U 0).toNat) (fun v hv => by
    rw [List.mem_range] at hv
    have := liftD_in g (a := 0) (b := k) (m := (v : Int)) (by omega) (by omega) (by omega) (by simp; omega)
    omega)
  have h2 : (List.range (sizeD S U 0).toNat).filter (fun (v : Nat) => decide (liftD S U k (k + 1) (liftD S U 0 k (v : Int)) = x)) = (List.range (sizeD S U 0).toNat).filter (fun (v : Nat) => decide (liftD S U 0 (k + 1) (v : Int) = x)) := by
    refine List.filter_congr fun v _ => ?_
    rw [liftD_comp (v : Int) (Nat.zero_le k) (Nat.le_succ k) hk]
  rw [h2] at hp
  simp only [Int.toNat_natCast, Int.toNat_zero]
  rw [← hp]
  congr 1
  refine List.map_congr_left fun c hc => ?_
  rw [List.mem_filter, List.mem_range] at hc
  simp only [Function.comp_apply]
  unfold underD
  rw [if_pos ⟨by omega, by omega, by omega⟩]
  unfold underP
  rw [List.length_map]
  simp only [Int.toNat_natCast, Int.toNat_zero]
theorem sumU_succ (S : List Int) (U : List (List Int)) (b : Int) (l : List Int) (i : Nat) (h : i < l.length) : sumU S U b (l.take (i + 1)) = sumU S U b (l.take i) + (underD S U b (l[i]) 0).length := by
  unfold sumU
  rw [List.take_succ_eq_append_getElem h, List.map_append, List.sum_append]
  simp
theorem underD_len (S : List Int) (U : List (List Int)) (b m a : Int) : (underD S U b m a).length ≤ 40 := by
  have h2 := sizeD_range S U a
  unfold underD
  split
  · have h1 := underP_len S U b m a (sizeD S U a).toNat
    omega
  · simp
theorem sumU_le (S : List Int) (U : List (List Int)) (b : Int) : ∀ (l : List Int), sumU S U b l ≤ 40 * l.length
  | [] => by simp [sumU]
  | c :: l => by
    have h1 := sumU_le S U b l
    have h2 := underD_len S U b c 0
    simp only [sumU, List.map_cons, List.sum_cons, List.length_cons] at *
    omega
theorem hierKids_ev (S : List Int) (U : List (List Int)) (x y : Int) (hD : okD S U) (hx : 0 ≤ x ∧ x ≤ 255) (hy : 0 ≤ y ∧ y ≤ 255) :
    cvF tab 6 [.agg [rI S, rR U], .int .u8 x, .int .u8 y] = some (.bool true) := by
  refine cvFA_R (mf := Mf.f6) rfl rfl (by kernel_rfl) ?_
  simp only [Mf.f6]
  obtain ⟨hS, hU⟩ := fits_of hD
  have e1 := refGood_ev S U hS hU
  simp only [rI, rR] at e1
  cases g : goodD S U with
  | false => simp [beqI, bneI, mm_min2, mm_max2, mm_min3, mm_max3, startE, lkE, lkX, lkE_rest, sx, substE, opVA, objs0, List.replicate, XA_seq, XA_region, XOA_go, goE_someA, opV, ev, putA, layAll, XOA_nil, XA_skip_seq, XA_skip_nil, XOA_gd, goG_tA, goG_uA, binV, binInt, unV, XA_ret_nil, XA_ret_cons, endFA_r, endFA_n, endTA_r, endTA_n, endRA_r, endRA_n, fltR, resultsA, resAs, resA, XA_block, XA_cond, pickX_t, pickX_f, pickX_b, XA_skip_blk, XA_skip_lp, XA_exit_seq, XA_exit_lp, XA_exit_blk, XA_exit_nil, load1, Ev.loadCells, objCells, bodyCells, setCells, AV.flat, AV.flat1, backR, backV, backCell, mapO, AV.cells, AV.atom, AV.tree, fillV, repeatL, treeCell, freezeAll, eqCells, callV_T, callV_F, passV, passCell, srcCells, sliceBounds, hiB, loB, thenQ_nA, thenQ_xA, thenQ_rA, runK_nA, runK_xA, runK_rA, wrap_i64, wrap_u64, wrap_u32, wrap_u8, wrap_u16, rI, rR, e1, g, wakes_ev]
  | true =>
    have hl := good_len g
    have hn : IntKind.i64.wrap ((S.length : Int) + 1) = (S.length : Int) + 1 := wrap_i64 (by omega) (by omega)
    have h1 := held_ev x ((S.length : Int) + 1) hx.1 hx.2 (by omega)
    have i1 := held_in x ((S.length : Int) + 1) hx.1 (by omega)
    generalize x.tmod ((S.length : Int) + 1) = p at h1 i1
    have e2 := refSize_ev S U p hS hU
    have sp := size_pos g i1.1 (by omega)
    have h4 := held_ev y (sizeD S U p) hy.1 hy.2 sp
    have i4 := held_in y (sizeD S U p) hy.1 sp
    generalize y.tmod (sizeD S U p) = z at h4 i4
    have e3 := Kids_ev S U p z ⟨by omega, by omega⟩ hS hU
    have e4 := fun b m a => Under_ev S U b m a hS hU
    have e5 := fun a b m => Lift_ev S U a b m hS hU
    simp only [rI, rR] at e2 e3 e4 e5
    by_cases c : p = 0
    · have hk0 : kidsD S U p z = [] := by unfold kidsD; rw [if_pos (by omega)]
      rw [hk0] at e3
      subst c
      simp [beqI, bneI, mm_min2, mm_max2, mm_min3, mm_max3, startE, lkE, lkX, lkE_rest, sx, substE, opVA, objs0, List.replicate, XA_seq, XA_region, XOA_go, goE_someA, opV, ev, putA, layAll, XOA_nil, XA_skip_seq, XA_skip_nil, XOA_gd, goG_tA, goG_uA, binV, binInt, unV, XA_ret_nil, XA_ret_cons, endFA_r, endFA_n, endTA_r, endTA_n, endRA_r, endRA_n, fltR, resultsA, resAs, resA, XA_block, XA_cond, pickX_t, pickX_f, pickX_b, XA_skip_blk, XA_skip_lp, XA_exit_seq, XA_exit_lp, XA_exit_blk, XA_exit_nil, load1, Ev.loadCells, objCells, bodyCells, setCells, AV.flat, AV.flat1, backR, backV, backCell, mapO, AV.cells, AV.atom, AV.tree, fillV, repeatL, treeCell, freezeAll, eqCells, callV_T, callV_F, passV, passCell, srcCells, sliceBounds, hiB, loB, thenQ_nA, thenQ_xA, thenQ_rA, runK_nA, runK_xA, runK_rA, wrap_i64, wrap_u64, wrap_u32, wrap_u8, wrap_u16, rI, rR, e1, g, hn, h1, e2, h4, e3, wakes_ev]
    · obtain ⟨k, rfl⟩ : ∃ k : Nat, p = ((k + 1 : Nat) : Int) := ⟨(p - 1).toNat, by omega⟩
      have hkn : k + 1 ≤ S.length := by omega
      have hwk : IntKind.i64.wrap (((k + 1 : Nat) : Int) - 1) = (k : Int) := by rw [wrap_i64 (by omega) (by omega)]; omega
      have hall := sumU_all S U g k z hkn i4.1 i4.2
      have hkd : kidsD S U ((k + 1 : Nat) : Int) z = underD S U ((k + 1 : Nat) : Int) z k := by
        unfold kidsD
        rw [if_neg (by omega)]
        congr 1
        omega
      rw [hkd] at e3
      have hkids : ∀ v ∈ underD S U ((k + 1 : Nat) : Int) z k, 0 ≤ v ∧ v < sizeD S U k ∧ liftD S U k (k + 1) v = z := by
        intro v hv
        unfold underD at hv
        rw [if_pos ⟨by omega, i4.1, i4.2⟩] at hv
        obtain ⟨j, rfl, hj1, hj2⟩ := underP_mem S U k (k + 1) z _ v hv
        exact ⟨by omega, by omega, hj2⟩
      have hle := underD_len S U ((k + 1 : Nat) : Int) z k
      have hc0 : ¬ ((k + 1 : Nat) : Int) = 0 := by omega
      generalize hKK : ((k + 1 : Nat) : Int) = K at *
      generalize underD S U K z k = kids at *
      simp [beqI, bneI, mm_min2, mm_max2, mm_min3, mm_max3, startE, lkE, lkX, lkE_rest, sx, substE, opVA, objs0, List.replicate, XA_seq, XA_region, XOA_go, goE_someA, opV, ev, putA, layAll, XOA_nil, XA_skip_seq, XA_skip_nil, XOA_gd, goG_tA, goG_uA, binV, binInt, unV, XA_ret_nil, XA_ret_cons, endFA_r, endFA_n, endTA_r, endTA_n, endRA_r, endRA_n, fltR, resultsA, resAs, resA, XA_block, XA_cond, pickX_t, pickX_f, pickX_b, XA_skip_blk, XA_skip_lp, XA_exit_seq, XA_exit_lp, XA_exit_blk, XA_exit_nil, load1, Ev.loadCells, objCells, bodyCells, setCells, AV.flat, AV.flat1, backR, backV, backCell, mapO, AV.cells, AV.atom, AV.tree, fillV, repeatL, treeCell, freezeAll, eqCells, callV_T, callV_F, passV, passCell, srcCells, sliceBounds, hiB, loB, thenQ_nA, thenQ_xA, thenQ_rA, runK_nA, runK_xA, runK_rA, wrap_i64, wrap_u64, wrap_u32, wrap_u8, wrap_u16, rI, rR, e1, g, hn, h1, e2, h4, e3, hc0]
      refine XA_for (fun i => ⟨[(3, .ptr 0 0 0), (7, .int .i64 K), (8, .int .i64 z), (9, .ro kids.length (kids.map (.int .i64))), (10, .int .i64 (sumU S U k (kids.take i))), (11, .int .i64 i)], [⟨0, .var [.ro S.length (S.map (.int .i64)), .ro U.length (U.map rI)]⟩]⟩)
        (fun _ => True) kids.length 0 (Nat.zero_le _) (by simp [AV.atom, normA, lkE, fixObjs, fixBody, fixV, fixCell, sumU]) trivial ?_ ?_
      · intro i _ hi _
        have hi' : (i : Int) < kids.length := by omega
        obtain ⟨v0, v1, v2⟩ := hkids (kids[i]) (List.getElem_mem hi)
        have hsum := sumU_succ S U k kids i hi
        have hul := underD_len S U k (kids[i]) 0
        have hsl := sumU_le S U k (kids.take i)
        rw [List.length_take] at hsl
        have hu : ∀ w ∈ underD S U k (kids[i]) 0, 0 ≤ w ∧ liftOk S U 0 K w = true ∧ liftD S U 0 (k + 1) w = z := by
          intro w hw
          unfold underD at hw
          rw [if_pos ⟨by omega, v0, v1⟩] at hw
          obtain ⟨j, rfl, hj1, hj2⟩ := underP_mem S U 0 k (kids[i]) _ w hw
          refine ⟨by omega, liftOk_of g (Int.le_refl 0) (by omega) (by omega) (by omega) (by omega), ?_⟩
          rw [← liftD_comp (S := S) (U := U) (a := 0) (b := k) (c := k + 1) (j : Int) (by omega) (by omega) hkn, hj2, v2]
        simp [beqI, bneI, mm_min2, mm_max2, mm_min3, mm_max3, startE, lkE, lkX, lkE_rest, sx, substE, opVA, objs0, List.replicate, XA_seq, XA_region, XOA_go, goE_someA, opV, ev, putA, layAll, XOA_nil, XA_skip_seq, XA_skip_nil, XOA_gd, goG_tA, goG_uA, binV, binInt, unV, XA_ret_nil, XA_ret_cons, endFA_r, endFA_n, endTA_r, endTA_n, endRA_r, endRA_n, fltR, resultsA, resAs, resA, XA_block, XA_cond, pickX_t, pickX_f, pickX_b, XA_skip_blk, XA_skip_lp, XA_exit_seq, XA_exit_lp, XA_exit_blk, XA_exit_nil, load1, Ev.loadCells, objCells, bodyCells, setCells, AV.flat, AV.flat1, backR, backV, backCell, mapO, AV.cells, AV.atom, AV.tree, fillV, repeatL, treeCell, freezeAll, eqCells, callV_T, callV_F, passV, passCell, srcCells, sliceBounds, hiB, loB, thenQ_nA, thenQ_xA, thenQ_rA, runK_nA, runK_xA, runK_rA, wrap_i64, wrap_u64, wrap_u32, wrap_u8, wrap_u16, AV.atom, normA, lkE, fixObjs, fixBody, fixV, fixCell, hi', hwk, idxI kids i hi, e4]
        generalize underD S U k (kids[i]) 0 = u at *
        refine XA_for (fun j => ⟨[(3, .ptr 0 0 0), (7, .int .i64 K), (8, .int .i64 z), (9, .ro kids.length (kids.map (.int .i64))), (10, .int .i64 (sumU S U k (kids.take i))), (11, .int .i64 i), (12, .ro u.length (u.map (.int .i64))), (13, .int .i64 j)], [⟨0, .var [.ro S.length (S.map (.int .i64)), .ro U.length (U.map rI)]⟩]⟩)
          (fun _ => True) u.length 0 (Nat.zero_le _) (by simp [AV.atom, normA, lkE, fixObjs, fixBody, fixV, fixCell]) trivial ?_ ?_
        · intro j _ hj _
          have hj' : (j : Int) < u.length := by omega
          obtain ⟨w0, w1, w2⟩ := hu (u[j]) (List.getElem_mem hj)
          have hKn : K.toNat = k + 1 := by omega
          simp [beqI, bneI, mm_min2, mm_max2, mm_min3, mm_max3, startE, lkE, lkX, lkE_rest, sx, substE, opVA, objs0, List.replicate, XA_seq, XA_region, XOA_go, goE_someA, opV, ev, putA, layAll, XOA_nil, XA_skip_seq, XA_skip_nil, XOA_gd, goG_tA, goG_uA, binV, binInt, unV, XA_ret_nil, XA_ret_cons, endFA_r, endFA_n, endTA_r, endTA_n, endRA_r, endRA_n, fltR, resultsA, resAs, resA, XA_block, XA_cond, pickX_t, pickX_f, pickX_b, XA_skip_blk, XA_skip_lp, XA_exit_seq, XA_exit_lp, XA_exit_blk, XA_exit_nil, load1, Ev.loadCells, objCells, bodyCells, setCells, AV.flat, AV.flat1, backR, backV, backCell, mapO, AV.cells, AV.atom, AV.tree, fillV, repeatL, treeCell, freezeAll, eqCells, callV_T, callV_F, passV, passCell, srcCells, sliceBounds, hiB, loB, thenQ_nA, thenQ_xA, thenQ_rA, runK_nA, runK_xA, runK_rA, wrap_i64, wrap_u64, wrap_u32, wrap_u8, wrap_u16, AV.atom, normA, lkE, fixObjs, fixBody, fixV, fixCell, hj', idxI u j hj, e5, w1, w2, hKn, wrap_succ j u.length hj (by omega)]
        · intro _
          have hw1 : IntKind.i64.wrap ((sumU S U k (kids.take i) : Int) + (u.length : Int)) = (sumU S U k (kids.take (i + 1)) : Int) := by rw [wrap_i64 (by omega) (by omega)]; omega
          simp [beqI, bneI, mm_min2, mm_max2, mm_min3, mm_max3, startE, lkE, lkX, lkE_rest, sx, substE, opVA, objs0, List.replicate, XA_seq, XA_region, XOA_go, goE_someA, opV, ev, putA, layAll, XOA_nil, XA_skip_seq, XA_skip_nil, XOA_gd, goG_tA, goG_uA, binV, binInt, unV, XA_ret_nil, XA_ret_cons, endFA_r, endFA_n, endTA_r, endTA_n, endRA_r, endRA_n, fltR, resultsA, resAs, resA, XA_block, XA_cond, pickX_t, pickX_f, pickX_b, XA_skip_blk, XA_skip_lp, XA_exit_seq, XA_exit_lp, XA_exit_blk, XA_exit_nil, load1, Ev.loadCells, objCells, bodyCells, setCells, AV.flat, AV.flat1, backR, backV, backCell, mapO, AV.cells, AV.atom, AV.tree, fillV, repeatL, treeCell, freezeAll, eqCells, callV_T, callV_F, passV, passCell, srcCells, sliceBounds, hiB, loB, thenQ_nA, thenQ_xA, thenQ_rA, runK_nA, runK_xA, runK_rA, wrap_i64, wrap_u64, wrap_u32, wrap_u8, wrap_u16, AV.atom, normA, lkE, fixObjs, fixBody, fixV, fixCell, hw1, wrap_succ i kids.length hi (by omega)]
      · intro _
        rw [List.take_length]
        simp [beqI, bneI, mm_min2, mm_max2, mm_min3, mm_max3, startE, lkE, lkX, lkE_rest, sx, substE, opVA, objs0, List.replicate, XA_seq, XA_region, XOA_go, goE_someA, opV, ev, putA, layAll, XOA_nil, XA_skip_seq, XA_skip_nil, XOA_gd, goG_tA, goG_uA, binV, binInt, unV, XA_ret_nil, XA_ret_cons, endFA_r, endFA_n, endTA_r, endTA_n, endRA_r, endRA_n, fltR, resultsA, resAs, resA, XA_block, XA_cond, pickX_t, pickX_f, pickX_b, XA_skip_blk, XA_skip_lp, XA_exit_seq, XA_exit_lp, XA_exit_blk, XA_exit_nil, load1, Ev.loadCells, objCells, bodyCells, setCells, AV.flat, AV.flat1, backR, backV, backCell, mapO, AV.cells, AV.atom, AV.tree, fillV, repeatL, treeCell, freezeAll, eqCells, callV_T, callV_F, passV, passCell, srcCells, sliceBounds, hiB, loB, thenQ_nA, thenQ_xA, thenQ_rA, runK_nA, runK_xA, runK_rA, wrap_i64, wrap_u64, wrap_u32, wrap_u8, wrap_u16, AV.atom, normA, lkE, fixObjs, fixBody, fixV, fixCell, e4, hall, wakes_ev]
theorem hierKids_law (l : List AV) (h : RDargs [gDim, .int .u8, .int .u8] l) : ∃ H1, cfT tab 6 l [] = some (.bool true, H1) := by
  obtain ⟨d, r, rfl, hd, x, r, rfl, hx, y, r, rfl, hy, rfl⟩ := h
  obtain ⟨S, U, rfl, hD⟩ := rdarg_dim hd
  obtain ⟨x, rfl, hx'⟩ := rdarg_u8 hx
  obtain ⟨y, rfl, hy'⟩ := rdarg_u8 hy
  exact cvF_bool (hierKids_ev S U x y hD hx' hy')
theorem hierKids_lifted (os : Os) (started : os.Started) (H : Type) (enc : TypeId × Value → H) :
    ReturnsInHanded {} Try.checked os 6 .any (Rows.hierKidsSpec.pre6 enc Try.prog Try.f6 Rows.hierKidsRow.domain false) (Rows.hierKidsSpec.post enc Try.prog Try.f6 false true false false) := by
  refine returnsInHanded_of_change (C := Try.checked) Try.own started (by kernel_rfl) Try.func6
    (ChangeSpec.witness6 (enc := enc) (C := Try.checked) false ⟨#[], #[.agg #[.slice none 0 0, .slice none 0 0], .int .u8 0, .int .u8 0], []⟩ 8 (by kernel_rfl) (by kernel_rfl) (by kernel_rfl) (by kernel_rfl)) ?_
  intro W base args ds gs before hval hW hcnd _
  have hval' : ∀ (j : Nat) (t : TypeId) (v : Value), Try.f6.params.toList[j]? = some t → args[j]? = some v → Value.okWide Try.prog W .any base t v := fun j t v h1 h2 => hval j t v (by simpa using h1) h2
  obtain ⟨p, q, hA, hV, hpq, _, _⟩ := id hW
  have hg : gtsB Try.prog [gDim, .int .u8, .int .u8] Try.f6.params.toList = true := by kernel_rfl
  refine (law_calls' tab_ok hg hierKids_law hval' hA).mono fun e W' ⟨he, hb⟩ => ?_
  subst he
  refine ⟨_, rfl, post_true Try.laidOut (rt := 4) (fun ds h => ?_) rfl (by kernel_rfl) (by kernel_rfl) (by kernel_rfl) hW hb⟩
  match ds, h with
  | [_, _, _], _ => rfl
theorem hierKids_holds : Rows.HierKidsSaid :=
  OpenClaim.holds_of_wide 6 Try.f6 rfl rfl rfl rfl rfl rfl rfl ⟨rfl, rfl, rfl, rfl, rfl⟩ rfl rfl rfl rfl rfl (by kernel_rfl) Try.func6 (by kernel_rfl)
    (of_decide_eq_true (by kernel_rfl)) (by unfold Func.isWrapper; first | (rw [if_pos (by decide +kernel)]; kernel_rfl) | (rw [if_neg (by decide +kernel)]; exact ⟨rfl, rfl⟩))
    (fun os started H enc _ => hierKids_lifted os started H enc)
end Go.Proofs.Ytgijhnaplifpdaa
