/- A node's places, as the document counts them. -/
import Derived.Test.YtaflkcaebecpfaaLatCom
set_option linter.unusedSimpArgs false
set_option linter.unusedVariables false
set_option maxHeartbeats 4000000
set_option maxRecDepth 100000
namespace Go.Proofs.Ytaflkcaebecpfaa
open Go.Ev
/-- How many members a node's level has in a dimension. -/
def szN (ds : List Dm) (v : List Int) (i : Nat) : Int := sizeD (gD ds i).S (gD ds i).U (gI v i)
theorem szN_pos {ds : List Dm} {m : Int} {v : List Int} (g : goodN ds m v = true) (hv : okN v) {i : Nat} (hi : i < ds.length) : 1 ≤ szN ds v i ∧ szN ds v i ≤ 40 := by
  have gc := goodN_good g
  have hl := goodC_len gc
  have hb := hv.at (i := i) (by omega)
  unfold byte at hb
  have h := (goodN_iff gc hv).1 g
  have hw : gI v i ≤ (wOf ds i : Int) := by
    have : i = 0 ∨ i = 1 ∨ i = 2 ∨ i = 3 := by omega
    rcases this with rfl | rfl | rfl | rfl
    · exact h.1
    · exact h.2.1
    · exact h.2.2.1
    · exact h.2.2.2
  unfold wOf at hw
  rw [if_pos hi] at hw
  have gd := goodC_at gc hi
  refine ⟨?_, (sizeD_range _ _ _).2⟩
  unfold szN sizeD
  rw [if_pos ⟨gd, hb.1, hw⟩]
  split
  · omega
  · have := good_size gd (i := (gI v i).toNat) (by omega)
    omega
theorem costC_eq {ds : List Dm} {m : Int} {v : List Int} (g : goodN ds m v = true) : costC ds m v = prodTo (szN ds v) ds.length := by
  unfold costC
  rw [if_pos g]; rfl
theorem costC_range (ds : List Dm) (m : Int) (v : List Int) : 0 ≤ costC ds m v ∧ costC ds m v ≤ 2560000 := by
  unfold costC
  split
  · rename_i g
    have hl := goodC_len (goodN_good g)
    exact prodTo_small _ _ hl.2.1 fun i _ => sizeD_range _ _ _
  · omega
theorem prodTo_pos (f : Nat → Int) : ∀ (n : Nat), (∀ i, i < n → 1 ≤ f i) → 1 ≤ prodTo f n
  | 0, _ => by simp [prodTo]
  | n + 1, h => by
    have h1 := prodTo_pos f n fun i hi => h i (by omega)
    have h2 := h n (by omega)
    simp only [prodTo]
    have := Int.mul_le_mul h1 h2 (by omega) (by omega : (0 : Int) ≤ prodTo f n)
    omega
theorem rcost_ev (ds : List Dm) (m : Int) (v : List Int) (hC : okC ds) (hv : okN v) : cvF tab 18 [.agg [.ro ds.length (flatD ds), .int .i64 m], .agg (v.map (.int .u8))] = some (.int .i64 (costC ds m v)) := by
  refine cvFA_R (mf := Mf.f18) rfl rfl (by kernel_rfl) ?_
  simp only [Mf.f18]
  have e := rGood_ev ds m v hC hv
  cases g : goodN ds m v with
  | false =>
    obtain ⟨a, b, c, d, rfl, ha, hb, hc, hd⟩ := four hv
    rw [g] at e
    simp only [List.map] at e
    simp [beqI, bneI, mm_min2, mm_max2, mm_min3, mm_max3, startE, lkE, lkX, lkE_rest, sx, substE, opVA, objs0, List.replicate, XA_seq, XA_region, XOA_go, goE_someA, opV, ev, putA, layAll, XOA_nil, XA_skip_seq, XA_skip_nil, XOA_gd, goG_tA, goG_uA, binV, binInt, unV, XA_ret_nil, XA_ret_cons, endFA_r, endFA_n, endTA_r, endTA_n, endRA_r, endRA_n, fltR, resultsA, resAs, resA, XA_block, XA_cond, pickX_t, pickX_f, pickX_b, XA_skip_blk, XA_skip_lp, XA_exit_seq, XA_exit_lp, XA_exit_blk, XA_exit_nil, load1, Ev.loadCells, objCells, bodyCells, setCells, AV.flat, AV.flat1, backR, backV, backCell, mapO, AV.cells, AV.atom, AV.tree, fillV, repeatL, treeCell, freezeAll, eqCells, callV_T, callV_F, passN, passV, passCell, srcCells, sliceBounds, hiB, loB, thenQ_nA, thenQ_xA, thenQ_rA, runK_nA, runK_xA, runK_rA, wrap_i64, wrap_u64, wrap_u32, wrap_u8, wrap_u16, e, g, costC]
  | true =>
    have gc := goodN_good g
    have hl := goodC_len gc
    rw [g] at e
    have hp : ∀ (H : List AObj) (fz : List Nat), mapO (passCell H [] fz) (v.map (.int .u8)) = some (v.map (.int .u8)) := fun H fz => by
      obtain ⟨a, b, c, d, rfl, ha, hb, hc, hd⟩ := four hv
      simp [mapO, passCell]
    have hlen : v.length = 4 := hv.1
    simp [beqI, bneI, mm_min2, mm_max2, mm_min3, mm_max3, startE, lkE, lkX, lkE_rest, sx, substE, opVA, objs0, List.replicate, XA_seq, XA_region, XOA_go, goE_someA, opV, ev, putA, layAll, XOA_nil, XA_skip_seq, XA_skip_nil, XOA_gd, goG_tA, goG_uA, binV, binInt, unV, XA_ret_nil, XA_ret_cons, endFA_r, endFA_n, endTA_r, endTA_n, endRA_r, endRA_n, fltR, resultsA, resAs, resA, XA_block, XA_cond, pickX_t, pickX_f, pickX_b, XA_skip_blk, XA_skip_lp, XA_exit_seq, XA_exit_lp, XA_exit_blk, XA_exit_nil, load1, Ev.loadCells, objCells, bodyCells, setCells, AV.flat, AV.flat1, backR, backV, backCell, mapO, AV.cells, AV.atom, AV.tree, fillV, repeatL, treeCell, freezeAll, eqCells, callV_T, callV_F, passN, passV, passCell, srcCells, sliceBounds, hiB, loB, thenQ_nA, thenQ_xA, thenQ_rA, runK_nA, runK_xA, runK_rA, wrap_i64, wrap_u64, wrap_u32, wrap_u8, wrap_u16, e, hlen, List.take_of_length_le, hp]
    refine XA_for (fun i => ⟨[(2, .ptr 0 0 0), (3, .ptr 1 0 0), (5, .int .i64 (prodTo (szN ds v) i)), (6, .int .i64 i)], [⟨0, .var [.ro ds.length (flatD ds), .int .i64 m]⟩, ⟨0, .var (v.map (.int .u8))⟩]⟩)
      (fun _ => True) ds.length 0 (Nat.zero_le _) (by simp [AV.atom, normA, lkE, fixObjs, fixBody, fixV, fixCell, prodTo]) trivial ?_ ?_
    · intro i _ hi _
      have hi' : (i : Int) < ds.length := by omega
      have hi4 : i < 4 := by omega
      have hi4' : (i : Int) < 4 := by omega
      have hbv := hv.at hi4
      unfold byte at hbv
      have w1 : IntKind.i64.wrap (gI v i) = gI v i := wrap_i64 (by omega) (by omega)
      obtain ⟨hS, hU⟩ := fits_of (hC.at hi)
      have he := refSize_ev (gD ds i).S (gD ds i).U (gI v i) hS hU
      rw [show sizeD (gD ds i).S (gD ds i).U (gI v i) = szN ds v i from rfl] at he
      simp only [rI, rR] at he
      obtain ⟨p1, p2⟩ := prodTo_small (szN ds v) (i + 1) (by omega) fun j _ => sizeD_range _ _ _
      simp only [prodTo] at p1 p2
      have hw : IntKind.i64.wrap (prodTo (szN ds v) i * szN ds v i) = prodTo (szN ds v) i * szN ds v i := wrap_i64 (by omega) (by omega)
      simp [beqI, bneI, mm_min2, mm_max2, mm_min3, mm_max3, startE, lkE, lkX, lkE_rest, sx, substE, opVA, objs0, List.replicate, XA_seq, XA_region, XOA_go, goE_someA, opV, ev, putA, layAll, XOA_nil, XA_skip_seq, XA_skip_nil, XOA_gd, goG_tA, goG_uA, binV, binInt, unV, XA_ret_nil, XA_ret_cons, endFA_r, endFA_n, endTA_r, endTA_n, endRA_r, endRA_n, fltR, resultsA, resAs, resA, XA_block, XA_cond, pickX_t, pickX_f, pickX_b, XA_skip_blk, XA_skip_lp, XA_exit_seq, XA_exit_lp, XA_exit_blk, XA_exit_nil, load1, Ev.loadCells, objCells, bodyCells, setCells, AV.flat, AV.flat1, backR, backV, backCell, mapO, AV.cells, AV.atom, AV.tree, fillV, repeatL, treeCell, freezeAll, eqCells, callV_T, callV_F, passN, passV, passCell, srcCells, sliceBounds, hiB, loB, thenQ_nA, thenQ_xA, thenQ_rA, runK_nA, runK_xA, runK_rA, wrap_i64, wrap_u64, wrap_u32, wrap_u8, wrap_u16, AV.atom, normA, lkE, fixObjs, fixBody, fixV, fixCell, hi', hi4', dropD ds i hi, rI, rR, getN hv hi4, w1, he, hw, prodTo, wrap_succ i ds.length hi (by omega)]
    · intro _
      simp [beqI, bneI, mm_min2, mm_max2, mm_min3, mm_max3, startE, lkE, lkX, lkE_rest, sx, substE, opVA, objs0, List.replicate, XA_seq, XA_region, XOA_go, goE_someA, opV, ev, putA, layAll, XOA_nil, XA_skip_seq, XA_skip_nil, XOA_gd, goG_tA, goG_uA, binV, binInt, unV, XA_ret_nil, XA_ret_cons, endFA_r, endFA_n, endTA_r, endTA_n, endRA_r, endRA_n, fltR, resultsA, resAs, resA, XA_block, XA_cond, pickX_t, pickX_f, pickX_b, XA_skip_blk, XA_skip_lp, XA_exit_seq, XA_exit_lp, XA_exit_blk, XA_exit_nil, load1, Ev.loadCells, objCells, bodyCells, setCells, AV.flat, AV.flat1, backR, backV, backCell, mapO, AV.cells, AV.atom, AV.tree, fillV, repeatL, treeCell, freezeAll, eqCells, callV_T, callV_F, passN, passV, passCell, srcCells, sliceBounds, hiB, loB, thenQ_nA, thenQ_xA, thenQ_rA, runK_nA, runK_xA, runK_rA, wrap_i64, wrap_u64, wrap_u32, wrap_u8, wrap_u16, AV.atom, normA, lkE, fixObjs, fixBody, fixV, fixCell, costC_eq g]
/-- What is left of k behind t dimensions, from the last on. -/
def remP (ds : List Dm) (v : List Int) (k : Nat) : Nat → Int
  | 0 => k
  | t + 1 => (remP ds v k t).tdiv (szN ds v (ds.length - 1 - t))
def atJ (ds : List Dm) (v : List Int) (k lo x : Nat) : Int := if lo ≤ x ∧ x < ds.length then (remP ds v k (ds.length - 1 - x)).tmod (szN ds v x) else 0
def atL (ds : List Dm) (v : List Int) (k lo : Nat) : List Int := [atJ ds v k lo 0, atJ ds v k lo 1, atJ ds v k lo 2, atJ ds v k lo 3]
def placeOf (ds : List Dm) (v : List Int) (k : Nat) : List Int := atL ds v k 0
theorem remP_in {ds : List Dm} {m : Int} {v : List Int} (g : goodN ds m v = true) (hv : okN v) (k : Nat) : ∀ t, t ≤ ds.length → 0 ≤ remP ds v k t ∧ remP ds v k t ≤ k
  | 0, _ => by simp [remP]
  | t + 1, ht => by
    obtain ⟨h1, h2⟩ := remP_in g hv k t (by omega)
    have hs := szN_pos g hv (i := ds.length - 1 - t) (by omega)
    simp only [remP]
    refine ⟨Int.tdiv_nonneg h1 (by omega), Int.le_trans ?_ h2⟩
    rw [Int.tdiv_eq_ediv_of_nonneg h1]
    exact Int.ediv_le_self _ h1
theorem atJ_in {ds : List Dm} {m : Int} {v : List Int} (g : goodN ds m v = true) (hv : okN v) (k lo x : Nat) : 0 ≤ atJ ds v k lo x ∧ atJ ds v k lo x < 40 := by
  unfold atJ
  split
  · rename_i h
    have hs := szN_pos g hv h.2
    have hr := remP_in g hv k (ds.length - 1 - x) (by omega)
    have h1 := Int.tmod_nonneg (szN ds v x) hr.1
    have h2 := Int.tmod_lt_of_pos (remP ds v k (ds.length - 1 - x)) (b := szN ds v x) (by omega)
    omega
  · omega
theorem placeOf_ok {ds : List Dm} {m : Int} {v : List Int} (g : goodN ds m v = true) (hv : okN v) (k lo : Nat) : okN (atL ds v k lo) := by
  have h := fun x => atJ_in g hv k lo x
  exact okN4 ⟨(h 0).1, by have := (h 0).2; omega⟩ ⟨(h 1).1, by have := (h 1).2; omega⟩ ⟨(h 2).1, by have := (h 2).2; omega⟩ ⟨(h 3).1, by have := (h 3).2; omega⟩
theorem placeOf_right {ds : List Dm} {m : Int} {v : List Int} (g : goodN ds m v = true) (hv : okN v) (k : Nat) : rightC ds m v (placeOf ds v k) = true := by
  have gc := goodN_good g
  have hl := goodC_len gc
  have key : ∀ i, i < 4 → rightAt ds v (placeOf ds v k) i = true := by
    intro i hi
    have hgi : gI (placeOf ds v k) i = atJ ds v k 0 i := by
      have : i = 0 ∨ i = 1 ∨ i = 2 ∨ i = 3 := by omega
      rcases this with rfl | rfl | rfl | rfl <;> rfl
    unfold rightAt
    rw [hgi]
    by_cases c : i < ds.length
    · rw [if_pos c]
      have hs := szN_pos g hv c
      unfold atJ
      rw [if_pos ⟨by omega, c⟩]
      have h2 := Int.tmod_lt_of_pos (remP ds v k (ds.length - 1 - i)) (b := szN ds v i) (by omega)
      show decide (_ < szN ds v i) = true
      rw [decide_eq_true_eq]
      exact h2
    · rw [if_neg c]
      have hgood := (goodN_iff gc hv).1 g
      have hb := hv.at hi
      unfold byte at hb
      have hz : gI v i = 0 := by
        have hw0 := wOf_out c
        have : i = 0 ∨ i = 1 ∨ i = 2 ∨ i = 3 := by omega
        rcases this with rfl | rfl | rfl | rfl <;> omega
      unfold atJ
      rw [if_neg (fun h => c h.2), hz]
      rfl
  unfold rightC
  rw [gc, Bool.true_and, List.all_eq_true]
  intro i hi
  exact key i (List.mem_range.1 hi)
def placesP (ds : List Dm) (v : List Int) (n : Nat) : List (List Int) := (List.range n).map (placeOf ds v)
theorem placesP_succ (ds : List Dm) (v : List Int) (n : Nat) : placesP ds v (n + 1) = placesP ds v n ++ [placeOf ds v n] := by
  unfold placesP
  rw [List.range_succ, List.map_append]; rfl
theorem placesP_len4 (ds : List Dm) (v : List Int) (n : Nat) : ∀ x ∈ placesP ds v n, x.length = 4 := by
  intro x hx
  obtain ⟨k, _, rfl⟩ := List.mem_map.1 hx
  rfl
def placesN (ds : List Dm) (m : Int) (v : List Int) (most : Int) : List (List Int) := if costC ds m v > most then [] else placesP ds v (costC ds m v).toNat
end Go.Proofs.Ytaflkcaebecpfaa
