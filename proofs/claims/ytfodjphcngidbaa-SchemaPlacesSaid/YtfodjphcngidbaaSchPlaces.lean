/- Beyond a catalog there are no places. -/
import Derived.Test.YtfodjphcngidbaaSchCom
set_option linter.unusedSimpArgs false
set_option linter.unusedVariables false
set_option maxHeartbeats 4000000
set_option maxRecDepth 100000
namespace Go.Proofs.Ytfodjphcngidbaa
open Go.Ev
theorem right_at_false {ds : List Dm} {m : Int} {v a : List Int} {k : Nat} (hk : k < 4) (h : rightAt ds v a k = false) : rightC ds m v a = false := by
  unfold rightC
  rw [range_false (rightAt ds v a) 4 k hk h]
  simp
theorem gI_set (v : List Int) (k : Nat) (x : Int) (h : k < v.length) : gI (v.set k x) k = x := by
  unfold gI
  rw [List.getD_eq_getElem?_getD, List.getElem?_set_self h]; rfl
theorem far_at (ds : List Dm) (m : Int) (v a : List Int) (k : Nat) (x : Int) (hk : k < 4) (ha : a.length = 4) (h1 : k < ds.length → 40 ≤ x) (h2 : ¬ k < ds.length → x ≠ 0) : rightC ds m v (a.set k x) = false := by
  refine right_at_false hk ?_
  unfold rightAt
  rw [gI_set a k x (by omega)]
  by_cases c : k < ds.length
  · rw [if_pos c]
    have := (sizeD_range (gD ds k).S (gD ds k).U (gI v k)).2
    have := h1 c
    exact decide_eq_false (by omega)
  · rw [if_neg c, decide_eq_false (h2 c)]
    simp
theorem far_v (ds : List Dm) (m : Int) (v a : List Int) (k : Nat) (x : Int) (hk : k < 4) (hv : v.length = 4) (ha : 0 ≤ gI a k) (h1 : k < ds.length → ((gD ds k).S.length : Int) < x) (h2 : ¬ k < ds.length → x ≠ 0) : rightC ds m (v.set k x) a = false := by
  refine right_at_false hk ?_
  unfold rightAt
  rw [gI_set v k x (by omega)]
  by_cases c : k < ds.length
  · rw [if_pos c]
    have h3 := h1 c
    have : sizeD (gD ds k).S (gD ds k).U x = 0 := by
      by_cases e : sizeD (gD ds k).S (gD ds k).U x = 0
      · exact e
      · have := sizeD_ne e; omega
    exact decide_eq_false (by omega)
  · rw [if_neg c, decide_eq_false (h2 c)]
    simp
theorem lev_eq {ds : List Dm} {m : Int} (g : goodC ds m = true) {k : Nat} (h : k < ds.length) : levelsC ds m k = ((gD ds k).S.length : Int) + 1 := by
  simp [levelsC, g, h]
def gPlace : GT := .pair gCat (.pair gN (.pair gN .unit))
def placeV (ds : List Dm) (m : Int) (v a : List Int) : AV := .agg (.ro ds.length (flatD ds) :: .int .i64 m :: (v.map (.int .u8) ++ a.map (.int .u8)))
theorem rd_n {cs : List AV} (h : RD gN cs) : ∃ v, cs = v.map (.int .u8) ∧ okN v := by
  obtain ⟨v, h1, h2⟩ := rdarg_n (a := .agg cs) (by simp only [RDarg, gN, isAggG, if_true]; exact ⟨cs, rfl, h⟩)
  cases h1
  exact ⟨v, rfl, h2⟩
theorem rdarg_place {x : AV} (h : RDarg gPlace x) : ∃ ds m v a, x = placeV ds m v a ∧ okC ds ∧ okN v ∧ okN a := by
  simp only [RDarg, gPlace, isAggG, if_true] at h
  obtain ⟨cs, rfl, c, r, rfl, hc, v, r, rfl, hv, a, r, rfl, ha, rfl⟩ := h
  obtain ⟨ds, m, rfl, hC, hm⟩ := rd_cat hc
  obtain ⟨v, rfl, hv'⟩ := rd_n hv
  obtain ⟨a, rfl, ha'⟩ := rd_n ha
  exact ⟨ds, m, v, a, by simp [placeV], hC, hv', ha'⟩
theorem schemaPlaces_ev (ds : List Dm) (m : Int) (v a : List Int) (dim by' : Int) (hC : okC ds) (hv : okN v) (ha : okN a) (hd : byte dim) (hby : byte by') :
    cvF tab 7 [placeV ds m v a, .int .u8 dim, .int .u8 by'] = some (.bool true) := by
  refine cvFA_R (mf := Mf.f7) rfl rfl (by kernel_rfl) ?_
  simp only [Mf.f7]
  have e1 := rright_ev ds m v a hC hv ha
  have e2 := sright_ev ds m v a hC hv ha
  unfold byte at hd hby
  cases g : rightC ds m v a with
  | false =>
    obtain ⟨v0, v1, v2, v3, rfl, _, _, _, _⟩ := four hv
    obtain ⟨a0, a1, a2, a3, rfl, _, _, _, _⟩ := four ha
    simp only [List.map, g] at e1 e2
    simp [beqI, bneI, mm_min2, mm_max2, mm_min3, mm_max3, startE, lkE, lkX, lkE_rest, sx, substE, opVA, objs0, List.replicate, XA_seq, XA_region, XOA_go, goE_someA, opV, ev, putA, layAll, XOA_nil, XA_skip_seq, XA_skip_nil, XOA_gd, goG_tA, goG_uA, binV, binInt, unV, XA_ret_nil, XA_ret_cons, endFA_r, endFA_n, endTA_r, endTA_n, endRA_r, endRA_n, fltR, resultsA, resAs, resA, XA_block, XA_cond, pickX_t, pickX_f, pickX_b, XA_skip_blk, XA_skip_lp, XA_exit_seq, XA_exit_lp, XA_exit_blk, XA_exit_nil, load1, Ev.loadCells, objCells, bodyCells, setCells, AV.flat, AV.flat1, backR, backV, backCell, mapO, AV.cells, AV.atom, AV.tree, fillV, repeatL, treeCell, freezeAll, eqCells, callV_T, callV_F, passV, passCell, srcCells, sliceBounds, hiB, loB, thenQ_nA, thenQ_xA, thenQ_rA, runK_nA, runK_xA, runK_rA, wrap_i64, wrap_u64, wrap_u32, wrap_u8, wrap_u16, placeV, e1, wakes_ev]
  | true =>
    rw [g] at e1 e2
    have gc : goodC ds m = true := by unfold rightC at g; simp at g; exact g.1
    have hl := goodC_len gc
    obtain ⟨k, hk⟩ := nat_of (show 0 ≤ dim.tmod 4 by rw [Int.tmod_eq_emod_of_nonneg hd.1]; omega)
    have hk4 : k < 4 := by rw [Int.tmod_eq_emod_of_nonneg hd.1] at hk; omega
    have w1 : IntKind.i64.wrap dim = dim := wrap_i64 (by omega) (by omega)
    have t1 : by'.tmod 255 = by' % 255 := Int.tmod_eq_emod_of_nonneg hby.1
    have t2 : by'.tmod 100 = by' % 100 := Int.tmod_eq_emod_of_nonneg hby.1
    have w2 : IntKind.u8.wrap (1 + by' % 255) = 1 + by' % 255 := wrap_u8 (by omega) (by omega)
    have w3 : IntKind.u8.wrap (40 + by' % 100) = 40 + by' % 100 := wrap_u8 (by omega) (by omega)
    by_cases c : k < ds.length
    · have c' : ¬ (ds.length : Int) ≤ (k : Int) := by omega
      have hle := lev_eq gc c
      have hgl := good_len (goodC_at gc c)
      have l1 := slevels_ev ds m k hC
      rw [hle] at l1
      have w4 : IntKind.u8.wrap (((gD ds k).S.length : Int) + 1) = ((gD ds k).S.length : Int) + 1 := wrap_u8 (by omega) (by omega)
      have w5 : IntKind.u8.wrap (((gD ds k).S.length : Int) + 1 + by' % 100) = ((gD ds k).S.length : Int) + 1 + by' % 100 := wrap_u8 (by omega) (by omega)
      have f1 := far_at ds m v a k (40 + by' % 100) hk4 ha.1 (fun _ => by omega) (fun h => absurd c h)
      have f2 := far_v ds m v [0, 0, 0, 0] k (((gD ds k).S.length : Int) + 1 + by' % 100) hk4 hv.1 (by have : k = 0 ∨ k = 1 ∨ k = 2 ∨ k = 3 := by omega
                                                                                                       rcases this with rfl | rfl | rfl | rfl <;> decide) (fun _ => by omega) (fun h => absurd c h)
      have f3 := far_v ds m v a k (((gD ds k).S.length : Int) + 1 + by' % 100) hk4 hv.1 (by have := ha.at hk4; unfold byte at this; omega) (fun _ => by omega) (fun h => absurd c h)
      generalize hL : ((gD ds k).S.length : Int) + 1 = L at *
      have hset : ∀ (w : List Int) (x : Int), okN w → 0 ≤ x → x ≤ 255 → okN (w.set k x) := fun w x hw h0 h1 => ⟨by rw [List.length_set]; exact hw.1, fun y hy => by
        rcases List.mem_or_eq_of_mem_set hy with h | rfl
        · exact hw.2 y h
        · exact ⟨h0, h1⟩⟩
      have e3 := sright_ev ds m v (a.set k (40 + by' % 100)) hC hv (hset a _ ha (by omega) (by omega))
      have e4 := sright_ev ds m (v.set k (L + by' % 100)) [0, 0, 0, 0] hC (hset v _ hv (by omega) (by omega)) ⟨rfl, by intro x hx; simp at hx; subst hx; exact ⟨by omega, by omega⟩⟩
      have e5 := sright_ev ds m (v.set k (L + by' % 100)) a hC (hset v _ hv (by omega) (by omega)) ha
      rw [f1] at e3
      rw [f2] at e4
      rw [f3] at e5
      obtain ⟨v0, v1, v2, v3, rfl, _, _, _, _⟩ := four hv
      obtain ⟨a0, a1, a2, a3, rfl, _, _, _, _⟩ := four ha
      have hkk : k = 0 ∨ k = 1 ∨ k = 2 ∨ k = 3 := by omega
      rcases hkk with rfl | rfl | rfl | rfl <;> (
        simp only [List.set, List.map] at e1 e2 e3 e4 e5
        have c2 := c'
        simp at hk c c' l1
        simp only [Int.natCast_zero, Int.natCast_one, Int.cast_ofNat_Int] at c2
        simp [beqI, bneI, mm_min2, mm_max2, mm_min3, mm_max3, startE, lkE, lkX, lkE_rest, sx, substE, opVA, objs0, List.replicate, XA_seq, XA_region, XOA_go, goE_someA, opV, ev, putA, layAll, XOA_nil, XA_skip_seq, XA_skip_nil, XOA_gd, goG_tA, goG_uA, binV, binInt, unV, XA_ret_nil, XA_ret_cons, endFA_r, endFA_n, endTA_r, endTA_n, endRA_r, endRA_n, fltR, resultsA, resAs, resA, XA_block, XA_cond, pickX_t, pickX_f, pickX_b, XA_skip_blk, XA_skip_lp, XA_exit_seq, XA_exit_lp, XA_exit_blk, XA_exit_nil, load1, Ev.loadCells, objCells, bodyCells, setCells, AV.flat, AV.flat1, backR, backV, backCell, mapO, AV.cells, AV.atom, AV.tree, fillV, repeatL, treeCell, freezeAll, eqCells, callV_T, callV_F, passV, passCell, srcCells, sliceBounds, hiB, loB, thenQ_nA, thenQ_xA, thenQ_rA, runK_nA, runK_xA, runK_rA, wrap_i64, wrap_u64, wrap_u32, wrap_u8, wrap_u16, placeV, e1, e2, e3, e4, e5, w1, w2, w3, w4, w5, t1, t2, hk, c, c', c2, l1, wakes_ev])
    · have c' : (ds.length : Int) ≤ (k : Int) := by omega
      have z4 : okN [0, 0, 0, 0] := ⟨rfl, by intro x hx; simp at hx; subst hx; exact ⟨by omega, by omega⟩⟩
      have f1 := far_at ds m v a k (1 + by' % 255) hk4 ha.1 (fun h => absurd h c) (fun _ => by omega)
      have f2 := far_v ds m v [0, 0, 0, 0] k (1 + by' % 255) hk4 hv.1 (by have := z4.at hk4; unfold byte at this; omega) (fun h => absurd h c) (fun _ => by omega)
      have f3 := far_v ds m v a k (1 + by' % 255) hk4 hv.1 (by have := ha.at hk4; unfold byte at this; omega) (fun h => absurd h c) (fun _ => by omega)
      have hset : ∀ (w : List Int) (x : Int), okN w → 0 ≤ x → x ≤ 255 → okN (w.set k x) := fun w x hw h0 h1 => ⟨by rw [List.length_set]; exact hw.1, fun y hy => by
        rcases List.mem_or_eq_of_mem_set hy with h | rfl
        · exact hw.2 y h
        · exact ⟨h0, h1⟩⟩
      have e3 := sright_ev ds m v (a.set k (1 + by' % 255)) hC hv (hset a _ ha (by omega) (by omega))
      have e4 := sright_ev ds m (v.set k (1 + by' % 255)) [0, 0, 0, 0] hC (hset v _ hv (by omega) (by omega)) z4
      have e5 := sright_ev ds m (v.set k (1 + by' % 255)) a hC (hset v _ hv (by omega) (by omega)) ha
      rw [f1] at e3
      rw [f2] at e4
      rw [f3] at e5
      obtain ⟨v0, v1, v2, v3, rfl, _, _, _, _⟩ := four hv
      obtain ⟨a0, a1, a2, a3, rfl, _, _, _, _⟩ := four ha
      have hkk : k = 0 ∨ k = 1 ∨ k = 2 ∨ k = 3 := by omega
      rcases hkk with rfl | rfl | rfl | rfl
      · exact absurd hl.1 (by omega)
      all_goals
        simp only [List.set, List.map] at e1 e2 e3 e4 e5
        have c2 := c'
        simp at hk c c'
        simp only [Int.natCast_zero, Int.natCast_one, Int.cast_ofNat_Int] at c2
        simp [beqI, bneI, mm_min2, mm_max2, mm_min3, mm_max3, startE, lkE, lkX, lkE_rest, sx, substE, opVA, objs0, List.replicate, XA_seq, XA_region, XOA_go, goE_someA, opV, ev, putA, layAll, XOA_nil, XA_skip_seq, XA_skip_nil, XOA_gd, goG_tA, goG_uA, binV, binInt, unV, XA_ret_nil, XA_ret_cons, endFA_r, endFA_n, endTA_r, endTA_n, endRA_r, endRA_n, fltR, resultsA, resAs, resA, XA_block, XA_cond, pickX_t, pickX_f, pickX_b, XA_skip_blk, XA_skip_lp, XA_exit_seq, XA_exit_lp, XA_exit_blk, XA_exit_nil, load1, Ev.loadCells, objCells, bodyCells, setCells, AV.flat, AV.flat1, backR, backV, backCell, mapO, AV.cells, AV.atom, AV.tree, fillV, repeatL, treeCell, freezeAll, eqCells, callV_T, callV_F, passV, passCell, srcCells, sliceBounds, hiB, loB, thenQ_nA, thenQ_xA, thenQ_rA, runK_nA, runK_xA, runK_rA, wrap_i64, wrap_u64, wrap_u32, wrap_u8, wrap_u16, placeV, e1, e2, e3, e4, e5, w1, w2, w3, t1, t2, hk, c, c', c2, wakes_ev]
theorem schemaPlaces_law (l : List AV) (h : RDargs [gPlace, .int .u8, .int .u8] l) : ∃ H1, cfT tab 7 l [] = some (.bool true, H1) := by
  obtain ⟨x, r, rfl, hx, y, r, rfl, hy, z, r, rfl, hz, rfl⟩ := h
  obtain ⟨ds, m, v, a, rfl, hC, hv, ha⟩ := rdarg_place hx
  obtain ⟨p, rfl, hp⟩ := rdarg_u8 hy
  obtain ⟨q, rfl, hq⟩ := rdarg_u8 hz
  exact cvF_bool (schemaPlaces_ev ds m v a p q hC hv ha hp hq)
theorem schemaPlaces_lifted (os : Os) (started : os.Started) (H : Type) (enc : TypeId × Value → H) :
    ReturnsInHanded {} Try.checked os 7 .any (Rows.schemaPlacesSpec.pre6 enc Try.prog Try.f7 Rows.schemaPlacesRow.domain false) (Rows.schemaPlacesSpec.post enc Try.prog Try.f7 false true false false) := by
  refine returnsInHanded_of_change (C := Try.checked) Try.own started (by kernel_rfl) Try.func7
    (ChangeSpec.witness6 (enc := enc) (C := Try.checked) false ⟨#[], #[.agg #[.slice none 0 0, .int .i64 0, .int .u8 0, .int .u8 0, .int .u8 0, .int .u8 0, .int .u8 0, .int .u8 0, .int .u8 0, .int .u8 0], .int .u8 0, .int .u8 0], []⟩ 8 (by kernel_rfl) (by kernel_rfl) (by kernel_rfl) (by kernel_rfl)) ?_
  intro W base args ds gs before hval hW hcnd _
  have hval' : ∀ (j : Nat) (t : TypeId) (v : Value), Try.f7.params.toList[j]? = some t → args[j]? = some v → Value.okWide Try.prog W .any base t v := fun j t v h1 h2 => hval j t v (by simpa using h1) h2
  obtain ⟨p, q, hA, hV, hpq, _, _⟩ := id hW
  have hg : gtsB Try.prog [gPlace, .int .u8, .int .u8] Try.f7.params.toList = true := by kernel_rfl
  refine (law_calls' tab_ok hg schemaPlaces_law hval' hA).mono fun e W' ⟨he, hb⟩ => ?_
  subst he
  refine ⟨_, rfl, post_true Try.laidOut (rt := 4) (fun ds h => ?_) rfl (by kernel_rfl) (by kernel_rfl) (by kernel_rfl) hW hb⟩
  match ds, h with
  | [_, _, _], _ => rfl
theorem schemaPlaces_holds : Rows.SchemaPlacesSaid :=
  OpenClaim.holds_of_wide 7 Try.f7 rfl rfl rfl rfl rfl rfl rfl ⟨rfl, rfl, rfl, rfl, rfl⟩ rfl rfl rfl rfl rfl (by kernel_rfl) Try.func7 (by kernel_rfl)
    (of_decide_eq_true (by kernel_rfl)) (by unfold Func.isWrapper; first | (rw [if_pos (by decide +kernel)]; kernel_rfl) | (rw [if_neg (by decide +kernel)]; exact ⟨rfl, rfl⟩))
    (fun os started H enc _ => schemaPlaces_lifted os started H enc)
end Go.Proofs.Ytfodjphcngidbaa
