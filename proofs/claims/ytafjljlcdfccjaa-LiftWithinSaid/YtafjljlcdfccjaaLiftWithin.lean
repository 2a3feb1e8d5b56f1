/- A place lies in a fix of one member just if that is the one that it is carried to; in that of all members each lies, in that of none none. (Printed by liftwithin.py.) -/
import Derived.Test.YtafjljlcdfccjaaLiftCom
import Derived.Test.YtafjljlcdfccjaaLatLem
set_option linter.unusedSimpArgs false
set_option linter.unusedVariables false
set_option maxHeartbeats 4000000
set_option maxRecDepth 100000
namespace Go.Proofs.Ytafjljlcdfccjaa
open Go.Ev
def upTo (n : Nat) : List Int := (List.range n).map fun (k : Nat) => (k : Int)
theorem upTo_len (n : Nat) : (upTo n).length = n := by simp [upTo]
theorem upTo_succ (n : Nat) : upTo (n + 1) = upTo n ++ [(n : Int)] := by
  unfold upTo
  rw [List.range_succ, List.map_append]; rfl
theorem mem_upTo {n : Nat} {x : Int} (h0 : 0 ≤ x) (h1 : x < n) : x ∈ upTo n := List.mem_map.2 ⟨x.toNat, List.mem_range.2 (by omega), by omega⟩
/-- The fix's members behind n rounds; the row that they lie in. -/
def memA : Nat → AV
  | 0 => .nilsl
  | n + 1 => .own 4 0 0 (n + 1) 1
def objA : Nat → AObj
  | 0 => ⟨0, .none⟩
  | n + 1 => ⟨0, .row true 1 ((upTo (n + 1)).map (.int .i64))⟩
theorem within_in {ds : List Dm} {m : Int} {v a : List Int} {i : Nat} {lv : Int} (ms : List Int) (hr : rightC ds m v a = true) (hi : i < ds.length) (hk : liftOk (gD ds i).S (gD ds i).U (gI v i) lv (gI a i) = true) :
    withinC ds m v a i lv ms = decide (liftD (gD ds i).S (gD ds i).U (gI v i).toNat lv.toNat (gI a i) ∈ ms) := by
  have h1 : (i : Int) < ds.length := by omega
  simp [withinC, hr, h1, hi, hk]
theorem raised {ds : List Dm} {m : Int} {v a : List Int} (hr : rightC ds m v a = true) (hv : okN v) (ha : okN a) {i : Nat} (hi : i < ds.length) {r : Int} (h0 : 0 ≤ r) (h1 : gI v i + r ≤ (gD ds i).S.length) (hw : okN (v.set i (gI v i + r))) :
    toOk ds m v (v.set i (gI v i + r)) a = true ∧ toJ ds v (v.set i (gI v i + r)) a ds.length i = liftD (gD ds i).S (gD ds i).U (gI v i).toNat (gI v i + r).toNat (gI a i) := by
  have g := rightC_good hr
  have hl := goodC_len g
  have gn := rightC_node hr hv ha
  have hgi := (goodN_iff g hv).1 gn
  have hset : ∀ j, j < 4 → gI (v.set i (gI v i + r)) j = if j = i then gI v i + r else gI v j := by
    intro j hj
    obtain ⟨a, b, c, d, rfl, -, -, -, -⟩ := four hv
    have hi4 : i < 4 := by omega
    have h1 : i = 0 ∨ i = 1 ∨ i = 2 ∨ i = 3 := by omega
    have h2 : j = 0 ∨ j = 1 ∨ j = 2 ∨ j = 3 := by omega
    rcases h1 with rfl | rfl | rfl | rfl <;> rcases h2 with rfl | rfl | rfl | rfl <;> rfl
  have hwi : (wOf ds i : Int) = (gD ds i).S.length := by unfold wOf; rw [if_pos hi]
  have gw : goodN ds m (v.set i (gI v i + r)) = true := by
    rw [goodN_iff g hw, hset 0 (by omega), hset 1 (by omega), hset 2 (by omega), hset 3 (by omega)]
    have h : i = 0 ∨ i = 1 ∨ i = 2 ∨ i = 3 := by omega
    rcases h with rfl | rfl | rfl | rfl <;> simp <;> omega
  have hb : belowN v (v.set i (gI v i + r)) = true := belowN_of hv hw fun j hj => by
    rw [hset j hj]
    split
    · rename_i e; subst e; omega
    · omega
  refine ⟨by simp [toOk, hr, gw, hb], ?_⟩
  unfold toJ toI
  rw [if_pos hi, hset i (by omega), if_pos rfl]
theorem within_0 (ds : List Dm) (m : Int) (u0 u1 u2 u3 v0 v1 v2 v3 w0 w1 w2 w3 a0 a1 a2 a3 x y : Int) (hC : okC ds) (hv : okN [v0, v1, v2, v3]) (ha : okN [a0, a1, a2, a3]) (hx : 0 ≤ x ∧ x ≤ 255) (hy : 0 ≤ y ∧ y ≤ 255)
    (hr : rightC ds m [v0, v1, v2, v3] [a0, a1, a2, a3] = true) (hK : 0 < ds.length) (hd : x.tmod ds.length = 0) : cvF tab 6 [wayV ds m [u0, u1, u2, u3] [v0, v1, v2, v3] [w0, w1, w2, w3] [a0, a1, a2, a3], .int .u8 x, .int .u8 y] = some (.bool true) := by
  refine cvFA_R (mf := Mf.f6) rfl rfl (by kernel_rfl) ?_
  simp only [Mf.f6]
  have g := rightC_good hr
  have hl := goodC_len g
  have gd := goodC_at g hK
  have gl := good_len gd
  have gn := rightC_node hr hv ha
  have htop := goodN_at gn hv hK
  have bv := hv.at (i := 0) (by omega)
  have ba := ha.at (i := 0) (by omega)
  have hsz := rightC_at hr hK
  rw [show gI [v0, v1, v2, v3] 0 = v0 from rfl] at htop bv hsz
  rw [show gI [a0, a1, a2, a3] 0 = a0 from rfl] at ba hsz
  unfold byte at bv ba
  have er := rright_ev ds m _ _ hC hv ha
  rw [hr] at er
  have elv := rlevels_ev ds m 0 hC
  have hlv : levelsC ds m 0 = ((gD ds 0).S.length : Int) + 1 := by
    unfold levelsC
    rw [if_pos ⟨g, by omega, by omega⟩]
    simp
  rw [hlv] at elv
  have wx : IntKind.i64.wrap x = x := wrap_i64 (by omega) (by omega)
  have wv : IntKind.i64.wrap v0 = v0 := wrap_i64 (by omega) (by omega)
  have hn0 : ¬ ds = [] := fun e => by rw [e] at hK; simp at hK
  have ws : IntKind.i64.wrap (((gD ds 0).S.length : Int) + 1 - v0) = ((gD ds 0).S.length : Int) + 1 - v0 := wrap_i64 (by omega) (by omega)
  have wb : IntKind.u8.wrap (((gD ds 0).S.length : Int) + 1 - v0) = ((gD ds 0).S.length : Int) + 1 - v0 := wrap_u8 (by omega) (by omega)
  have hk0 : ¬ ((gD ds 0).S.length : Int) + 1 - v0 = 0 := by omega
  have r0 := Int.tmod_nonneg (((gD ds 0).S.length : Int) + 1 - v0) hy.1
  have r1 := Int.tmod_lt_of_pos y (b := ((gD ds 0).S.length : Int) + 1 - v0) (by omega)
  obtain ⟨r, hrr⟩ : ∃ r, y.tmod (((gD ds 0).S.length : Int) + 1 - v0) = r := ⟨_, rfl⟩
  rw [hrr] at r0 r1
  have wr : IntKind.u8.wrap (v0 + r) = v0 + r := wrap_u8 (by omega) (by omega)
  have wr2 : IntKind.i64.wrap (v0 + r) = v0 + r := wrap_i64 (by omega) (by omega)
  have hwok : okN [v0 + r, v1, v2, v3] := by
    obtain ⟨_, _, _, _, e, h0, h1, h2, h3⟩ := four hv
    simp only [List.cons.injEq] at e
    obtain ⟨rfl, rfl, rfl, rfl, _⟩ := e
    unfold byte at h0 h1 h2 h3
    exact okN4 ⟨by omega, by omega⟩ ⟨by omega, by omega⟩ ⟨by omega, by omega⟩ ⟨by omega, by omega⟩
  obtain ⟨k1, k2⟩ := raised hr hv ha hK r0 (show gI [v0, v1, v2, v3] 0 + r ≤ _ by rw [show gI [v0, v1, v2, v3] 0 = v0 from rfl]; omega) hwok
  rw [show List.set [v0, v1, v2, v3] 0 (gI [v0, v1, v2, v3] 0 + r) = [v0 + r, v1, v2, v3] from rfl] at k1 k2
  have et := To_ev ds m _ [v0 + r, v1, v2, v3] _ hC hv hwok ha
  have hpok := toP_ok (ds := ds) (m := m) hv hwok ha
  rw [k1] at et
  have hp0 : gI (toP ds m [v0, v1, v2, v3] [v0 + r, v1, v2, v3] [a0, a1, a2, a3]) 0 = liftD (gD ds 0).S (gD ds 0).U v0.toNat (v0 + r).toNat a0 := by
    rw [toP_eq k1, gI_toL ds _ _ _ _ (by omega), k2]; rfl
  have hok := liftOk_of gd bv.1 (show v0 ≤ v0 + r by omega) (show v0 + r ≤ (gD ds 0).S.length by omega) ba.1 hsz
  have hin := liftD_in gd (a := v0.toNat) (b := (v0 + r).toNat) (m := a0) (by omega) (by omega) ba.1 (by rw [Int.toNat_of_nonneg bv.1]; exact hsz)
  rw [Int.toNat_of_nonneg (show 0 ≤ v0 + r by omega)] at hin
  have hsr := sizeD_range (gD ds 0).S (gD ds 0).U (v0 + r)
  have ew := fun ms (hms : List.length ms ≤ 9223372036854775807) => Within_ev ds m _ _ ((0 : Nat) : Int) (v0 + r) ms hC hv ha hms
  have ewd := fun ms => within_in (ds := ds) (m := m) (v := [v0, v1, v2, v3]) (a := [a0, a1, a2, a3]) (i := 0) (lv := v0 + r) ms hr hK hok
  rw [show gI [v0, v1, v2, v3] 0 = v0 from rfl, show gI [a0, a1, a2, a3] 0 = a0 from rfl] at ewd
  generalize liftD (gD ds 0).S (gD ds 0).U v0.toNat (v0 + r).toNat a0 = L at *
  generalize toP ds m [v0, v1, v2, v3] [v0 + r, v1, v2, v3] [a0, a1, a2, a3] = P at *
  obtain ⟨hS, hU⟩ := fits_of (hC.at hK)
  have es := refSize_ev (gD ds 0).S (gD ds 0).U (v0 + r) hS hU
  simp only [rI, rR] at es
  obtain ⟨p0, p1, p2, p3, rfl, -, -, -, -⟩ := four hpok
  rw [show gI [p0, p1, p2, p3] 0 = p0 from rfl] at hp0
  subst hp0
  have wp : IntKind.i64.wrap p0 = p0 := wrap_i64 (by omega) (by omega)
  have ew0 := ew [] (by simp)
  rw [show withinC ds m [v0, v1, v2, v3] [a0, a1, a2, a3] ((0 : Nat) : Int) (v0 + r) [] = false from by rw [ewd]; simp] at ew0
  simp only [List.map, rI] at er et ew0
  have hdd := dropD ds 0 hK
  have hK' : (0 : Int) < ds.length := by omega
  simp [beqI, bneI, mm_min2, mm_max2, mm_min3, mm_max3, startE, lkE, lkX, lkE_rest, sx, substE, opVA, objs0, List.replicate, XA_seq, XA_region, XOA_go, goE_someA, opV, ev, putA, layAll, XOA_nil, XA_skip_seq, XA_skip_nil, XOA_gd, goG_tA, goG_uA, binV, binInt, unV, XA_ret_nil, XA_ret_cons, endFA_r, endFA_n, endTA_r, endTA_n, endRA_r, endRA_n, fltR, resultsA, resAs, resA, XA_block, XA_cond, pickX_t, pickX_f, pickX_b, XA_skip_blk, XA_skip_lp, XA_exit_seq, XA_exit_lp, XA_exit_blk, XA_exit_nil, load1, Ev.loadCells, objCells, bodyCells, setCells, AV.flat, AV.flat1, backR, backV, backCell, mapO, AV.cells, AV.atom, AV.tree, fillV, repeatL, treeCell, freezeAll, eqCells, callV_T, callV_F, passV, passCell, srcCells, sliceBounds, hiB, loB, thenQ_nA, thenQ_xA, thenQ_rA, runK_nA, runK_xA, runK_rA, wrap_i64, wrap_u64, wrap_u32, wrap_u8, wrap_u16, wayV, er, wx, hn0, hd, elv, wv, ws, wb, hk0, hrr, wr, et, wr2]
  simp at ew0
  simp [beqI, bneI, mm_min2, mm_max2, mm_min3, mm_max3, startE, lkE, lkX, lkE_rest, sx, substE, opVA, objs0, List.replicate, XA_seq, XA_region, XOA_go, goE_someA, opV, ev, putA, layAll, XOA_nil, XA_skip_seq, XA_skip_nil, XOA_gd, goG_tA, goG_uA, binV, binInt, unV, XA_ret_nil, XA_ret_cons, endFA_r, endFA_n, endTA_r, endTA_n, endRA_r, endRA_n, fltR, resultsA, resAs, resA, XA_block, XA_cond, pickX_t, pickX_f, pickX_b, XA_skip_blk, XA_skip_lp, XA_exit_seq, XA_exit_lp, XA_exit_blk, XA_exit_nil, load1, Ev.loadCells, objCells, bodyCells, setCells, AV.flat, AV.flat1, backR, backV, backCell, mapO, AV.cells, AV.atom, AV.tree, fillV, repeatL, treeCell, freezeAll, eqCells, callV_T, callV_F, passV, passCell, srcCells, sliceBounds, hiB, loB, thenQ_nA, thenQ_xA, thenQ_rA, runK_nA, runK_xA, runK_rA, wrap_i64, wrap_u64, wrap_u32, wrap_u8, wrap_u16, ew0]
  refine XA_for (fun n => ⟨[(3, .ptr 0 0 0), (7, .int .i64 0), (9, .ptr 2 0 0), (11, .ptr 3 0 0), (12, .int .i64 n)], [⟨0, .var [.ro ds.length (flatD ds), .int .i64 m, .int .u8 u0, .int .u8 u1, .int .u8 u2, .int .u8 u3, .int .u8 v0, .int .u8 v1, .int .u8 v2, .int .u8 v3, .int .u8 w0, .int .u8 w1, .int .u8 w2, .int .u8 w3, .int .u8 a0, .int .u8 a1, .int .u8 a2, .int .u8 a3]⟩, ⟨0, .none⟩, ⟨0, .var [.int .u8 p0, .int .u8 p1, .int .u8 p2, .int .u8 p3]⟩, ⟨0, .var [.int .i64 0, .int .i64 (v0 + r), memA n]⟩, objA n]⟩)
    (fun _ => True) (sizeD (gD ds 0).S (gD ds 0).U (v0 + r)).toNat 0 (Nat.zero_le _) (by simp [AV.atom, normA, lkE, fixObjs, fixBody, fixV, fixCell, memA, objA]) trivial ?_ ?_
  · intro n _ hn _
    have hn' : (n : Int) < sizeD (gD ds 0).S (gD ds 0).U (v0 + r) := by omega
    have ew1 := ew [(n : Int)] (by simp)
    rw [ewd] at ew1
    have hdec : decide (p0 ∈ [(n : Int)]) = decide (p0 = (n : Int)) := by simp
    rw [hdec] at ew1
    have hws := wrap_succ n (sizeD (gD ds 0).S (gD ds 0).U (v0 + r)).toNat hn (by omega)
    simp [rI] at ew1 hdd hK'
    try simp only [hdd, rI, rR] at ew1
    have q1 : (n + 1) * 8 ≤ 140737488355328 := by omega
    have q2 : n + 1 < 4611686018427387904 := by omega
    have hul := upTo_len n
    have hus := upTo_succ n
    cases n with
    | zero =>
      simp at ew1 hn' hws
      simp [beqI, bneI, mm_min2, mm_max2, mm_min3, mm_max3, startE, lkE, lkX, lkE_rest, sx, substE, opVA, objs0, List.replicate, XA_seq, XA_region, XOA_go, goE_someA, opV, ev, putA, layAll, XOA_nil, XA_skip_seq, XA_skip_nil, XOA_gd, goG_tA, goG_uA, binV, binInt, unV, XA_ret_nil, XA_ret_cons, endFA_r, endFA_n, endTA_r, endTA_n, endRA_r, endRA_n, fltR, resultsA, resAs, resA, XA_block, XA_cond, pickX_t, pickX_f, pickX_b, XA_skip_blk, XA_skip_lp, XA_exit_seq, XA_exit_lp, XA_exit_blk, XA_exit_nil, load1, Ev.loadCells, objCells, bodyCells, setCells, AV.flat, AV.flat1, backR, backV, backCell, mapO, AV.cells, AV.atom, AV.tree, fillV, repeatL, treeCell, freezeAll, eqCells, callV_T, callV_F, passV, passCell, srcCells, sliceBounds, hiB, loB, thenQ_nA, thenQ_xA, thenQ_rA, runK_nA, runK_xA, runK_rA, wrap_i64, wrap_u64, wrap_u32, wrap_u8, wrap_u16, AV.atom, normA, lkE, fixObjs, fixBody, fixV, fixCell, hK, hK', hdd, rI, rR, es, hn', ew1, wp, memA, objA, upTo, hws]
    | succ n =>
      have hul' : ((upTo (n + 1)).map (AV.int .i64)).length = n + 1 := by simp [upTo_len]
      simp at ew1 hn' hws
      simp [beqI, bneI, mm_min2, mm_max2, mm_min3, mm_max3, startE, lkE, lkX, lkE_rest, sx, substE, opVA, objs0, List.replicate, XA_seq, XA_region, XOA_go, goE_someA, opV, ev, putA, layAll, XOA_nil, XA_skip_seq, XA_skip_nil, XOA_gd, goG_tA, goG_uA, binV, binInt, unV, XA_ret_nil, XA_ret_cons, endFA_r, endFA_n, endTA_r, endTA_n, endRA_r, endRA_n, fltR, resultsA, resAs, resA, XA_block, XA_cond, pickX_t, pickX_f, pickX_b, XA_skip_blk, XA_skip_lp, XA_exit_seq, XA_exit_lp, XA_exit_blk, XA_exit_nil, load1, Ev.loadCells, objCells, bodyCells, setCells, AV.flat, AV.flat1, backR, backV, backCell, mapO, AV.cells, AV.atom, AV.tree, fillV, repeatL, treeCell, freezeAll, eqCells, callV_T, callV_F, passV, passCell, srcCells, sliceBounds, hiB, loB, thenQ_nA, thenQ_xA, thenQ_rA, runK_nA, runK_xA, runK_rA, wrap_i64, wrap_u64, wrap_u32, wrap_u8, wrap_u16, AV.atom, normA, lkE, fixObjs, fixBody, fixV, fixCell, hK, hK', hdd, rI, rR, es, hn', ew1, wp, memA, objA, hul, hus, hul', q1, q2, hws]
  · intro _
    obtain ⟨n, hn⟩ : ∃ n, (sizeD (gD ds 0).S (gD ds 0).U (v0 + r)).toNat = n + 1 := ⟨(sizeD (gD ds 0).S (gD ds 0).U (v0 + r)).toNat - 1, by omega⟩
    have hnI : sizeD (gD ds 0).S (gD ds 0).U (v0 + r) = (n : Int) + 1 := by omega
    have hpin : p0 ∈ upTo (n + 1) := mem_upTo hin.1 (by omega)
    have ew1 := ew (upTo (n + 1)) (by rw [upTo_len]; omega)
    rw [ewd, decide_eq_true hpin] at ew1
    rw [hnI] at es
    rw [hn]
    have hul := upTo_len (n + 1)
    simp [rI, upTo_len] at ew1 hdd hK'
    try simp only [hdd, rI, rR] at ew1
    simp [beqI, bneI, mm_min2, mm_max2, mm_min3, mm_max3, startE, lkE, lkX, lkE_rest, sx, substE, opVA, objs0, List.replicate, XA_seq, XA_region, XOA_go, goE_someA, opV, ev, putA, layAll, XOA_nil, XA_skip_seq, XA_skip_nil, XOA_gd, goG_tA, goG_uA, binV, binInt, unV, XA_ret_nil, XA_ret_cons, endFA_r, endFA_n, endTA_r, endTA_n, endRA_r, endRA_n, fltR, resultsA, resAs, resA, XA_block, XA_cond, pickX_t, pickX_f, pickX_b, XA_skip_blk, XA_skip_lp, XA_exit_seq, XA_exit_lp, XA_exit_blk, XA_exit_nil, load1, Ev.loadCells, objCells, bodyCells, setCells, AV.flat, AV.flat1, backR, backV, backCell, mapO, AV.cells, AV.atom, AV.tree, fillV, repeatL, treeCell, freezeAll, eqCells, callV_T, callV_F, passV, passCell, srcCells, sliceBounds, hiB, loB, thenQ_nA, thenQ_xA, thenQ_rA, runK_nA, runK_xA, runK_rA, wrap_i64, wrap_u64, wrap_u32, wrap_u8, wrap_u16, AV.atom, normA, lkE, fixObjs, fixBody, fixV, fixCell, hK, hK', hdd, rI, rR, es, ew1, memA, objA, hul, List.take_of_length_le, wakes_ev]
theorem within_1 (ds : List Dm) (m : Int) (u0 u1 u2 u3 v0 v1 v2 v3 w0 w1 w2 w3 a0 a1 a2 a3 x y : Int) (hC : okC ds) (hv : okN [v0, v1, v2, v3]) (ha : okN [a0, a1, a2, a3]) (hx : 0 ≤ x ∧ x ≤ 255) (hy : 0 ≤ y ∧ y ≤ 255)
    (hr : rightC ds m [v0, v1, v2, v3] [a0, a1, a2, a3] = true) (hK : 1 < ds.length) (hd : x.tmod ds.length = 1) : cvF tab 6 [wayV ds m [u0, u1, u2, u3] [v0, v1, v2, v3] [w0, w1, w2, w3] [a0, a1, a2, a3], .int .u8 x, .int .u8 y] = some (.bool true) := by
  refine cvFA_R (mf := Mf.f6) rfl rfl (by kernel_rfl) ?_
  simp only [Mf.f6]
  have g := rightC_good hr
  have hl := goodC_len g
  have gd := goodC_at g hK
  have gl := good_len gd
  have gn := rightC_node hr hv ha
  have htop := goodN_at gn hv hK
  have bv := hv.at (i := 1) (by omega)
  have ba := ha.at (i := 1) (by omega)
  have hsz := rightC_at hr hK
  rw [show gI [v0, v1, v2, v3] 1 = v1 from rfl] at htop bv hsz
  rw [show gI [a0, a1, a2, a3] 1 = a1 from rfl] at ba hsz
  unfold byte at bv ba
  have er := rright_ev ds m _ _ hC hv ha
  rw [hr] at er
  have elv := rlevels_ev ds m 1 hC
  have hlv : levelsC ds m 1 = ((gD ds 1).S.length : Int) + 1 := by
    unfold levelsC
    rw [if_pos ⟨g, by omega, by omega⟩]
    simp
  rw [hlv] at elv
  have wx : IntKind.i64.wrap x = x := wrap_i64 (by omega) (by omega)
  have wv : IntKind.i64.wrap v1 = v1 := wrap_i64 (by omega) (by omega)
  have hn0 : ¬ ds = [] := fun e => by rw [e] at hK; simp at hK
  have ws : IntKind.i64.wrap (((gD ds 1).S.length : Int) + 1 - v1) = ((gD ds 1).S.length : Int) + 1 - v1 := wrap_i64 (by omega) (by omega)
  have wb : IntKind.u8.wrap (((gD ds 1).S.length : Int) + 1 - v1) = ((gD ds 1).S.length : Int) + 1 - v1 := wrap_u8 (by omega) (by omega)
  have hk0 : ¬ ((gD ds 1).S.length : Int) + 1 - v1 = 0 := by omega
  have r0 := Int.tmod_nonneg (((gD ds 1).S.length : Int) + 1 - v1) hy.1
  have r1 := Int.tmod_lt_of_pos y (b := ((gD ds 1).S.length : Int) + 1 - v1) (by omega)
  obtain ⟨r, hrr⟩ : ∃ r, y.tmod (((gD ds 1).S.length : Int) + 1 - v1) = r := ⟨_, rfl⟩
  rw [hrr] at r0 r1
  have wr : IntKind.u8.wrap (v1 + r) = v1 + r := wrap_u8 (by omega) (by omega)
  have wr2 : IntKind.i64.wrap (v1 + r) = v1 + r := wrap_i64 (by omega) (by omega)
  have hwok : okN [v0, v1 + r, v2, v3] := by
    obtain ⟨_, _, _, _, e, h0, h1, h2, h3⟩ := four hv
    simp only [List.cons.injEq] at e
    obtain ⟨rfl, rfl, rfl, rfl, _⟩ := e
    unfold byte at h0 h1 h2 h3
    exact okN4 ⟨by omega, by omega⟩ ⟨by omega, by omega⟩ ⟨by omega, by omega⟩ ⟨by omega, by omega⟩
  obtain ⟨k1, k2⟩ := raised hr hv ha hK r0 (show gI [v0, v1, v2, v3] 1 + r ≤ _ by rw [show gI [v0, v1, v2, v3] 1 = v1 from rfl]; omega) hwok
  rw [show List.set [v0, v1, v2, v3] 1 (gI [v0, v1, v2, v3] 1 + r) = [v0, v1 + r, v2, v3] from rfl] at k1 k2
  have et := To_ev ds m _ [v0, v1 + r, v2, v3] _ hC hv hwok ha
  have hpok := toP_ok (ds := ds) (m := m) hv hwok ha
  rw [k1] at et
  have hp1 : gI (toP ds m [v0, v1, v2, v3] [v0, v1 + r, v2, v3] [a0, a1, a2, a3]) 1 = liftD (gD ds 1).S (gD ds 1).U v1.toNat (v1 + r).toNat a1 := by
    rw [toP_eq k1, gI_toL ds _ _ _ _ (by omega), k2]; rfl
  have hok := liftOk_of gd bv.1 (show v1 ≤ v1 + r by omega) (show v1 + r ≤ (gD ds 1).S.length by omega) ba.1 hsz
  have hin := liftD_in gd (a := v1.toNat) (b := (v1 + r).toNat) (m := a1) (by omega) (by omega) ba.1 (by rw [Int.toNat_of_nonneg bv.1]; exact hsz)
  rw [Int.toNat_of_nonneg (show 0 ≤ v1 + r by omega)] at hin
  have hsr := sizeD_range (gD ds 1).S (gD ds 1).U (v1 + r)
  have ew := fun ms (hms : List.length ms ≤ 9223372036854775807) => Within_ev ds m _ _ ((1 : Nat) : Int) (v1 + r) ms hC hv ha hms
  have ewd := fun ms => within_in (ds := ds) (m := m) (v := [v0, v1, v2, v3]) (a := [a0, a1, a2, a3]) (i := 1) (lv := v1 + r) ms hr hK hok
  rw [show gI [v0, v1, v2, v3] 1 = v1 from rfl, show gI [a0, a1, a2, a3] 1 = a1 from rfl] at ewd
  generalize liftD (gD ds 1).S (gD ds 1).U v1.toNat (v1 + r).toNat a1 = L at *
  generalize toP ds m [v0, v1, v2, v3] [v0, v1 + r, v2, v3] [a0, a1, a2, a3] = P at *
  obtain ⟨hS, hU⟩ := fits_of (hC.at hK)
  have es := refSize_ev (gD ds 1).S (gD ds 1).U (v1 + r) hS hU
  simp only [rI, rR] at es
  obtain ⟨p0, p1, p2, p3, rfl, -, -, -, -⟩ := four hpok
  rw [show gI [p0, p1, p2, p3] 1 = p1 from rfl] at hp1
  subst hp1
  have wp : IntKind.i64.wrap p1 = p1 := wrap_i64 (by omega) (by omega)
  have ew0 := ew [] (by simp)
  rw [show withinC ds m [v0, v1, v2, v3] [a0, a1, a2, a3] ((1 : Nat) : Int) (v1 + r) [] = false from by rw [ewd]; simp] at ew0
  simp only [List.map, rI] at er et ew0
  have hdd := dropD ds 1 hK
  have hK' : (1 : Int) < ds.length := by omega
  simp [beqI, bneI, mm_min2, mm_max2, mm_min3, mm_max3, startE, lkE, lkX, lkE_rest, sx, substE, opVA, objs0, List.replicate, XA_seq, XA_region, XOA_go, goE_someA, opV, ev, putA, layAll, XOA_nil, XA_skip_seq, XA_skip_nil, XOA_gd, goG_tA, goG_uA, binV, binInt, unV, XA_ret_nil, XA_ret_cons, endFA_r, endFA_n, endTA_r, endTA_n, endRA_r, endRA_n, fltR, resultsA, resAs, resA, XA_block, XA_cond, pickX_t, pickX_f, pickX_b, XA_skip_blk, XA_skip_lp, XA_exit_seq, XA_exit_lp, XA_exit_blk, XA_exit_nil, load1, Ev.loadCells, objCells, bodyCells, setCells, AV.flat, AV.flat1, backR, backV, backCell, mapO, AV.cells, AV.atom, AV.tree, fillV, repeatL, treeCell, freezeAll, eqCells, callV_T, callV_F, passV, passCell, srcCells, sliceBounds, hiB, loB, thenQ_nA, thenQ_xA, thenQ_rA, runK_nA, runK_xA, runK_rA, wrap_i64, wrap_u64, wrap_u32, wrap_u8, wrap_u16, wayV, er, wx, hn0, hd, elv, wv, ws, wb, hk0, hrr, wr, et, wr2]
  simp at ew0
  simp [beqI, bneI, mm_min2, mm_max2, mm_min3, mm_max3, startE, lkE, lkX, lkE_rest, sx, substE, opVA, objs0, List.replicate, XA_seq, XA_region, XOA_go, goE_someA, opV, ev, putA, layAll, XOA_nil, XA_skip_seq, XA_skip_nil, XOA_gd, goG_tA, goG_uA, binV, binInt, unV, XA_ret_nil, XA_ret_cons, endFA_r, endFA_n, endTA_r, endTA_n, endRA_r, endRA_n, fltR, resultsA, resAs, resA, XA_block, XA_cond, pickX_t, pickX_f, pickX_b, XA_skip_blk, XA_skip_lp, XA_exit_seq, XA_exit_lp, XA_exit_blk, XA_exit_nil, load1, Ev.loadCells, objCells, bodyCells, setCells, AV.flat, AV.flat1, backR, backV, backCell, mapO, AV.cells, AV.atom, AV.tree, fillV, repeatL, treeCell, freezeAll, eqCells, callV_T, callV_F, passV, passCell, srcCells, sliceBounds, hiB, loB, thenQ_nA, thenQ_xA, thenQ_rA, runK_nA, runK_xA, runK_rA, wrap_i64, wrap_u64, wrap_u32, wrap_u8, wrap_u16, ew0]
  refine XA_for (fun n => ⟨[(3, .ptr 0 0 0), (7, .int .i64 1), (9, .ptr 2 0 0), (11, .ptr 3 0 0), (12, .int .i64 n)], [⟨0, .var [.ro ds.length (flatD ds), .int .i64 m, .int .u8 u0, .int .u8 u1, .int .u8 u2, .int .u8 u3, .int .u8 v0, .int .u8 v1, .int .u8 v2, .int .u8 v3, .int .u8 w0, .int .u8 w1, .int .u8 w2, .int .u8 w3, .int .u8 a0, .int .u8 a1, .int .u8 a2, .int .u8 a3]⟩, ⟨0, .none⟩, ⟨0, .var [.int .u8 p0, .int .u8 p1, .int .u8 p2, .int .u8 p3]⟩, ⟨0, .var [.int .i64 1, .int .i64 (v1 + r), memA n]⟩, objA n]⟩)
    (fun _ => True) (sizeD (gD ds 1).S (gD ds 1).U (v1 + r)).toNat 0 (Nat.zero_le _) (by simp [AV.atom, normA, lkE, fixObjs, fixBody, fixV, fixCell, memA, objA]) trivial ?_ ?_
  · intro n _ hn _
    have hn' : (n : Int) < sizeD (gD ds 1).S (gD ds 1).U (v1 + r) := by omega
    have ew1 := ew [(n : Int)] (by simp)
    rw [ewd] at ew1
    have hdec : decide (p1 ∈ [(n : Int)]) = decide (p1 = (n : Int)) := by simp
    rw [hdec] at ew1
    have hws := wrap_succ n (sizeD (gD ds 1).S (gD ds 1).U (v1 + r)).toNat hn (by omega)
    simp [rI] at ew1 hdd hK'
    try simp only [hdd, rI, rR] at ew1
    have q1 : (n + 1) * 8 ≤ 140737488355328 := by omega
    have q2 : n + 1 < 4611686018427387904 := by omega
    have hul := upTo_len n
    have hus := upTo_succ n
    cases n with
    | zero =>
      simp at ew1 hn' hws
      simp [beqI, bneI, mm_min2, mm_max2, mm_min3, mm_max3, startE, lkE, lkX, lkE_rest, sx, substE, opVA, objs0, List.replicate, XA_seq, XA_region, XOA_go, goE_someA, opV, ev, putA, layAll, XOA_nil, XA_skip_seq, XA_skip_nil, XOA_gd, goG_tA, goG_uA, binV, binInt, unV, XA_ret_nil, XA_ret_cons, endFA_r, endFA_n, endTA_r, endTA_n, endRA_r, endRA_n, fltR, resultsA, resAs, resA, XA_block, XA_cond, pickX_t, pickX_f, pickX_b, XA_skip_blk, XA_skip_lp, XA_exit_seq, XA_exit_lp, XA_exit_blk, XA_exit_nil, load1, Ev.loadCells, objCells, bodyCells, setCells, AV.flat, AV.flat1, backR, backV, backCell, mapO, AV.cells, AV.atom, AV.tree, fillV, repeatL, treeCell, freezeAll, eqCells, callV_T, callV_F, passV, passCell, srcCells, sliceBounds, hiB, loB, thenQ_nA, thenQ_xA, thenQ_rA, runK_nA, runK_xA, runK_rA, wrap_i64, wrap_u64, wrap_u32, wrap_u8, wrap_u16, AV.atom, normA, lkE, fixObjs, fixBody, fixV, fixCell, hK, hK', hdd, rI, rR, es, hn', ew1, wp, memA, objA, upTo, hws]
    | succ n =>
      have hul' : ((upTo (n + 1)).map (AV.int .i64)).length = n + 1 := by simp [upTo_len]
      simp at ew1 hn' hws
      simp [beqI, bneI, mm_min2, mm_max2, mm_min3, mm_max3, startE, lkE, lkX, lkE_rest, sx, substE, opVA, objs0, List.replicate, XA_seq, XA_region, XOA_go, goE_someA, opV, ev, putA, layAll, XOA_nil, XA_skip_seq, XA_skip_nil, XOA_gd, goG_tA, goG_uA, binV, binInt, unV, XA_ret_nil, XA_ret_cons, endFA_r, endFA_n, endTA_r, endTA_n, endRA_r, endRA_n, fltR, resultsA, resAs, resA, XA_block, XA_cond, pickX_t, pickX_f, pickX_b, XA_skip_blk, XA_skip_lp, XA_exit_seq, XA_exit_lp, XA_exit_blk, XA_exit_nil, load1, Ev.loadCells, objCells, bodyCells, setCells, AV.flat, AV.flat1, backR, backV, backCell, mapO, AV.cells, AV.atom, AV.tree, fillV, repeatL, treeCell, freezeAll, eqCells, callV_T, callV_F, passV, passCell, srcCells, sliceBounds, hiB, loB, thenQ_nA, thenQ_xA, thenQ_rA, runK_nA, runK_xA, runK_rA, wrap_i64, wrap_u64, wrap_u32, wrap_u8, wrap_u16, AV.atom, normA, lkE, fixObjs, fixBody, fixV, fixCell, hK, hK', hdd, rI, rR, es, hn', ew1, wp, memA, objA, hul, hus, hul', q1, q2, hws]
  · intro _
    obtain ⟨n, hn⟩ : ∃ n, (sizeD (gD ds 1).S (gD ds 1).U (v1 + r)).toNat = n + 1 := ⟨(sizeD (gD ds 1).S (gD ds 1).U (v1 + r)).toNat - 1, by omega⟩
    have hnI : sizeD (gD ds 1).S (gD ds 1).U (v1 + r) = (n : Int) + 1 := by omega
    have hpin : p1 ∈ upTo (n + 1) := mem_upTo hin.1 (by omega)
    have ew1 := ew (upTo (n + 1)) (by rw [upTo_len]; omega)
    rw [ewd, decide_eq_true hpin] at ew1
    rw [hnI] at es
    rw [hn]
    have hul := upTo_len (n + 1)
    simp [rI, upTo_len] at ew1 hdd hK'
    try simp only [hdd, rI, rR] at ew1
    simp [beqI, bneI, mm_min2, mm_max2, mm_min3, mm_max3, startE, lkE, lkX, lkE_rest, sx, substE, opVA, objs0, List.replicate, XA_seq, XA_region, XOA_go, goE_someA, opV, ev, putA, layAll, XOA_nil, XA_skip_seq, XA_skip_nil, XOA_gd, goG_tA, goG_uA, binV, binInt, unV, XA_ret_nil, XA_ret_cons, endFA_r, endFA_n, endTA_r, endTA_n, endRA_r, endRA_n, fltR, resultsA, resAs, resA, XA_block, XA_cond, pickX_t, pickX_f, pickX_b, XA_skip_blk, XA_skip_lp, XA_exit_seq, XA_exit_lp, XA_exit_blk, XA_exit_nil, load1, Ev.loadCells, objCells, bodyCells, setCells, AV.flat, AV.flat1, backR, backV, backCell, mapO, AV.cells, AV.atom, AV.tree, fillV, repeatL, treeCell, freezeAll, eqCells, callV_T, callV_F, passV, passCell, srcCells, sliceBounds, hiB, loB, thenQ_nA, thenQ_xA, thenQ_rA, runK_nA, runK_xA, runK_rA, wrap_i64, wrap_u64, wrap_u32, wrap_u8, wrap_u16, AV.atom, normA, lkE, fixObjs, fixBody, fixV, fixCell, hK, hK', hdd, rI, rR, es, ew1, memA, objA, hul, List.take_of_length_le, wakes_ev]
theorem within_2 (ds : List Dm) (m : Int) (u0 u1 u2 u3 v0 v1 v2 v3 w0 w1 w2 w3 a0 a1 a2 a3 x y : Int) (hC : okC ds) (hv : okN [v0, v1, v2, v3]) (ha : okN [a0, a1, a2, a3]) (hx : 0 ≤ x ∧ x ≤ 255) (hy : 0 ≤ y ∧ y ≤ 255)
    (hr : rightC ds m [v0, v1, v2, v3] [a0, a1, a2, a3] = true) (hK : 2 < ds.length) (hd : x.tmod ds.length = 2) : cvF tab 6 [wayV ds m [u0, u1, u2, u3] [v0, v1, v2, v3] [w0, w1, w2, w3] [a0, a1, a2, a3], .int .u8 x, .int .u8 y] = some (.bool true) := by
  refine cvFA_R (mf := Mf.f6) rfl rfl (by kernel_rfl) ?_
  simp only [Mf.f6]
  have g := rightC_good hr
  have hl := goodC_len g
  have gd := goodC_at g hK
  have gl := good_len gd
  have gn := rightC_node hr hv ha
  have htop := goodN_at gn hv hK
  have bv := hv.at (i := 2) (by omega)
  have ba := ha.at (i := 2) (by omega)
  have hsz := rightC_at hr hK
  rw [show gI [v0, v1, v2, v3] 2 = v2 from rfl] at htop bv hsz
  rw [show gI [a0, a1, a2, a3] 2 = a2 from rfl] at ba hsz
  unfold byte at bv ba
  have er := rright_ev ds m _ _ hC hv ha
  rw [hr] at er
  have elv := rlevels_ev ds m 2 hC
  have hlv : levelsC ds m 2 = ((gD ds 2).S.length : Int) + 1 := by
    unfold levelsC
    rw [if_pos ⟨g, by omega, by omega⟩]
    simp
  rw [hlv] at elv
  have wx : IntKind.i64.wrap x = x := wrap_i64 (by omega) (by omega)
  have wv : IntKind.i64.wrap v2 = v2 := wrap_i64 (by omega) (by omega)
  have hn0 : ¬ ds = [] := fun e => by rw [e] at hK; simp at hK
  have ws : IntKind.i64.wrap (((gD ds 2).S.length : Int) + 1 - v2) = ((gD ds 2).S.length : Int) + 1 - v2 := wrap_i64 (by omega) (by omega)
  have wb : IntKind.u8.wrap (((gD ds 2).S.length : Int) + 1 - v2) = ((gD ds 2).S.length : Int) + 1 - v2 := wrap_u8 (by omega) (by omega)
  have hk0 : ¬ ((gD ds 2).S.length : Int) + 1 - v2 = 0 := by omega
  have r0 := Int.tmod_nonneg (((gD ds 2).S.length : Int) + 1 - v2) hy.1
  have r1 := Int.tmod_lt_of_pos y (b := ((gD ds 2).S.length : Int) + 1 - v2) (by omega)
  obtain ⟨r, hrr⟩ : ∃ r, y.tmod (((gD ds 2).S.length : Int) + 1 - v2) = r := ⟨_, rfl⟩
  rw [hrr] at r0 r1
  have wr : IntKind.u8.wrap (v2 + r) = v2 + r := wrap_u8 (by omega) (by omega)
  have wr2 : IntKind.i64.wrap (v2 + r) = v2 + r := wrap_i64 (by omega) (by omega)
  have hwok : okN [v0, v1, v2 + r, v3] := by
    obtain ⟨_, _, _, _, e, h0, h1, h2, h3⟩ := four hv
    simp only [List.cons.injEq] at e
    obtain ⟨rfl, rfl, rfl, rfl, _⟩ := e
    unfold byte at h0 h1 h2 h3
    exact okN4 ⟨by omega, by omega⟩ ⟨by omega, by omega⟩ ⟨by omega, by omega⟩ ⟨by omega, by omega⟩
  obtain ⟨k1, k2⟩ := raised hr hv ha hK r0 (show gI [v0, v1, v2, v3] 2 + r ≤ _ by rw [show gI [v0, v1, v2, v3] 2 = v2 from rfl]; omega) hwok
  rw [show List.set [v0, v1, v2, v3] 2 (gI [v0, v1, v2, v3] 2 + r) = [v0, v1, v2 + r, v3] from rfl] at k1 k2
  have et := To_ev ds m _ [v0, v1, v2 + r, v3] _ hC hv hwok ha
  have hpok := toP_ok (ds := ds) (m := m) hv hwok ha
  rw [k1] at et
  have hp2 : gI (toP ds m [v0, v1, v2, v3] [v0, v1, v2 + r, v3] [a0, a1, a2, a3]) 2 = liftD (gD ds 2).S (gD ds 2).U v2.toNat (v2 + r).toNat a2 := by
    rw [toP_eq k1, gI_toL ds _ _ _ _ (by omega), k2]; rfl
  have hok := liftOk_of gd bv.1 (show v2 ≤ v2 + r by omega) (show v2 + r ≤ (gD ds 2).S.length by omega) ba.1 hsz
  have hin := liftD_in gd (a := v2.toNat) (b := (v2 + r).toNat) (m := a2) (by omega) (by omega) ba.1 (by rw [Int.toNat_of_nonneg bv.1]; exact hsz)
  rw [Int.toNat_of_nonneg (show 0 ≤ v2 + r by omega)] at hin
  have hsr := sizeD_range (gD ds 2).S (gD ds 2).U (v2 + r)
  have ew := fun ms (hms : List.length ms ≤ 9223372036854775807) => Within_ev ds m _ _ ((2 : Nat) : Int) (v2 + r) ms hC hv ha hms
  have ewd := fun ms => within_in (ds := ds) (m := m) (v := [v0, v1, v2, v3]) (a := [a0, a1, a2, a3]) (i := 2) (lv := v2 + r) ms hr hK hok
  rw [show gI [v0, v1, v2, v3] 2 = v2 from rfl, show gI [a0, a1, a2, a3] 2 = a2 from rfl] at ewd
  generalize liftD (gD ds 2).S (gD ds 2).U v2.toNat (v2 + r).toNat a2 = L at *
  generalize toP ds m [v0, v1, v2, v3] [v0, v1, v2 + r, v3] [a0, a1, a2, a3] = P at *
  obtain ⟨hS, hU⟩ := fits_of (hC.at hK)
  have es := refSize_ev (gD ds 2).S (gD ds 2).U (v2 + r) hS hU
  simp only [rI, rR] at es
  obtain ⟨p0, p1, p2, p3, rfl, -, -, -, -⟩ := four hpok
  rw [show gI [p0, p1, p2, p3] 2 = p2 from rfl] at hp2
  subst hp2
  have wp : IntKind.i64.wrap p2 = p2 := wrap_i64 (by omega) (by omega)
  have ew0 := ew [] (by simp)
  rw [show withinC ds m [v0, v1, v2, v3] [a0, a1, a2, a3] ((2 : Nat) : Int) (v2 + r) [] = false from by rw [ewd]; simp] at ew0
  simp only [List.map, rI] at er et ew0
  have hdd := dropD ds 2 hK
  have hK' : (2 : Int) < ds.length := by omega
  simp [beqI, bneI, mm_min2, mm_max2, mm_min3, mm_max3, startE, lkE, lkX, lkE_rest, sx, substE, opVA, objs0, List.replicate, XA_seq, XA_region, XOA_go, goE_someA, opV, ev, putA, layAll, XOA_nil, XA_skip_seq, XA_skip_nil, XOA_gd, goG_tA, goG_uA, binV, binInt, unV, XA_ret_nil, XA_ret_cons, endFA_r, endFA_n, endTA_r, endTA_n, endRA_r, endRA_n, fltR, resultsA, resAs, resA, XA_block, XA_cond, pickX_t, pickX_f, pickX_b, XA_skip_blk, XA_skip_lp, XA_exit_seq, XA_exit_lp, XA_exit_blk, XA_exit_nil, load1, Ev.loadCells, objCells, bodyCells, setCells, AV.flat, AV.flat1, backR, backV, backCell, mapO, AV.cells, AV.atom, AV.tree, fillV, repeatL, treeCell, freezeAll, eqCells, callV_T, callV_F, passV, passCell, srcCells, sliceBounds, hiB, loB, thenQ_nA, thenQ_xA, thenQ_rA, runK_nA, runK_xA, runK_rA, wrap_i64, wrap_u64, wrap_u32, wrap_u8, wrap_u16, wayV, er, wx, hn0, hd, elv, wv, ws, wb, hk0, hrr, wr, et, wr2]
  simp at ew0
  simp [beqI, bneI, mm_min2, mm_max2, mm_min3, mm_max3, startE, lkE, lkX, lkE_rest, sx, substE, opVA, objs0, List.replicate, XA_seq, XA_region, XOA_go, goE_someA, opV, ev, putA, layAll, XOA_nil, XA_skip_seq, XA_skip_nil, XOA_gd, goG_tA, goG_uA, binV, binInt, unV, XA_ret_nil, XA_ret_cons, endFA_r, endFA_n, endTA_r, endTA_n, endRA_r, endRA_n, fltR, resultsA, resAs, resA, XA_block, XA_cond, pickX_t, pickX_f, pickX_b, XA_skip_blk, XA_skip_lp, XA_exit_seq, XA_exit_lp, XA_exit_blk, XA_exit_nil, load1, Ev.loadCells, objCells, bodyCells, setCells, AV.flat, AV.flat1, backR, backV, backCell, mapO, AV.cells, AV.atom, AV.tree, fillV, repeatL, treeCell, freezeAll, eqCells, callV_T, callV_F, passV, passCell, srcCells, sliceBounds, hiB, loB, thenQ_nA, thenQ_xA, thenQ_rA, runK_nA, runK_xA, runK_rA, wrap_i64, wrap_u64, wrap_u32, wrap_u8, wrap_u16, ew0]
  refine XA_for (fun n => ⟨[(3, .ptr 0 0 0), (7, .int .i64 2), (9, .ptr 2 0 0), (11, .ptr 3 0 0), (12, .int .i64 n)], [⟨0, .var [.ro ds.length (flatD ds), .int .i64 m, .int .u8 u0, .int .u8 u1, .int .u8 u2, .int .u8 u3, .int .u8 v0, .int .u8 v1, .int .u8 v2, .int .u8 v3, .int .u8 w0, .int .u8 w1, .int .u8 w2, .int .u8 w3, .int .u8 a0, .int .u8 a1, .int .u8 a2, .int .u8 a3]⟩, ⟨0, .none⟩, ⟨0, .var [.int .u8 p0, .int .u8 p1, .int .u8 p2, .int .u8 p3]⟩, ⟨0, .var [.int .i64 2, .int .i64 (v2 + r), memA n]⟩, objA n]⟩)
    (fun _ => True) (sizeD (gD ds 2).S (gD ds 2).U (v2 + r)).toNat 0 (Nat.zero_le _) (by simp [AV.atom, normA, lkE, fixObjs, fixBody, fixV, fixCell, memA, objA]) trivial ?_ ?_
  · intro n _ hn _
    have hn' : (n : Int) < sizeD (gD ds 2).S (gD ds 2).U (v2 + r) := by omega
    have ew1 := ew [(n : Int)] (by simp)
    rw [ewd] at ew1
    have hdec : decide (p2 ∈ [(n : Int)]) = decide (p2 = (n : Int)) := by simp
    rw [hdec] at ew1
    have hws := wrap_succ n (sizeD (gD ds 2).S (gD ds 2).U (v2 + r)).toNat hn (by omega)
    simp [rI] at ew1 hdd hK'
    try simp only [hdd, rI, rR] at ew1
    have q1 : (n + 1) * 8 ≤ 140737488355328 := by omega
    have q2 : n + 1 < 4611686018427387904 := by omega
    have hul := upTo_len n
    have hus := upTo_succ n
    cases n with
    | zero =>
      simp at ew1 hn' hws
      simp [beqI, bneI, mm_min2, mm_max2, mm_min3, mm_max3, startE, lkE, lkX, lkE_rest, sx, substE, opVA, objs0, List.replicate, XA_seq, XA_region, XOA_go, goE_someA, opV, ev, putA, layAll, XOA_nil, XA_skip_seq, XA_skip_nil, XOA_gd, goG_tA, goG_uA, binV, binInt, unV, XA_ret_nil, XA_ret_cons, endFA_r, endFA_n, endTA_r, endTA_n, endRA_r, endRA_n, fltR, resultsA, resAs, resA, XA_block, XA_cond, pickX_t, pickX_f, pickX_b, XA_skip_blk, XA_skip_lp, XA_exit_seq, XA_exit_lp, XA_exit_blk, XA_exit_nil, load1, Ev.loadCells, objCells, bodyCells, setCells, AV.flat, AV.flat1, backR, backV, backCell, mapO, AV.cells, AV.atom, AV.tree, fillV, repeatL, treeCell, freezeAll, eqCells, callV_T, callV_F, passV, passCell, srcCells, sliceBounds, hiB, loB, thenQ_nA, thenQ_xA, thenQ_rA, runK_nA, runK_xA, runK_rA, wrap_i64, wrap_u64, wrap_u32, wrap_u8, wrap_u16, AV.atom, normA, lkE, fixObjs, fixBody, fixV, fixCell, hK, hK', hdd, rI, rR, es, hn', ew1, wp, memA, objA, upTo, hws]
    | succ n =>
      have hul' : ((upTo (n + 1)).map (AV.int .i64)).length = n + 1 := by simp [upTo_len]
      simp at ew1 hn' hws
      simp [beqI, bneI, mm_min2, mm_max2, mm_min3, mm_max3, startE, lkE, lkX, lkE_rest, sx, substE, opVA, objs0, List.replicate, XA_seq, XA_region, XOA_go, goE_someA, opV, ev, putA, layAll, XOA_nil, XA_skip_seq, XA_skip_nil, XOA_gd, goG_tA, goG_uA, binV, binInt, unV, XA_ret_nil, XA_ret_cons, endFA_r, endFA_n, endTA_r, endTA_n, endRA_r, endRA_n, fltR, resultsA, resAs, resA, XA_block, XA_cond, pickX_t, pickX_f, pickX_b, XA_skip_blk, XA_skip_lp, XA_exit_seq, XA_exit_lp, XA_exit_blk, XA_exit_nil, load1, Ev.loadCells, objCells, bodyCells, setCells, AV.flat, AV.flat1, backR, backV, backCell, mapO, AV.cells, AV.atom, AV.tree, fillV, repeatL, treeCell, freezeAll, eqCells, callV_T, callV_F, passV, passCell, srcCells, sliceBounds, hiB, loB, thenQ_nA, thenQ_xA, thenQ_rA, runK_nA, runK_xA, runK_rA, wrap_i64, wrap_u64, wrap_u32, wrap_u8, wrap_u16, AV.atom, normA, lkE, fixObjs, fixBody, fixV, fixCell, hK, hK', hdd, rI, rR, es, hn', ew1, wp, memA, objA, hul, hus, hul', q1, q2, hws]
  · intro _
    obtain ⟨n, hn⟩ : ∃ n, (sizeD (gD ds 2).S (gD ds 2).U (v2 + r)).toNat = n + 1 := ⟨(sizeD (gD ds 2).S (gD ds 2).U (v2 + r)).toNat - 1, by omega⟩
    have hnI : sizeD (gD ds 2).S (gD ds 2).U (v2 + r) = (n : Int) + 1 := by omega
    have hpin : p2 ∈ upTo (n + 1) := mem_upTo hin.1 (by omega)
    have ew1 := ew (upTo (n + 1)) (by rw [upTo_len]; omega)
    rw [ewd, decide_eq_true hpin] at ew1
    rw [hnI] at es
    rw [hn]
    have hul := upTo_len (n + 1)
    simp [rI, upTo_len] at ew1 hdd hK'
    try simp only [hdd, rI, rR] at ew1
    simp [beqI, bneI, mm_min2, mm_max2, mm_min3, mm_max3, startE, lkE, lkX, lkE_rest, sx, substE, opVA, objs0, List.replicate, XA_seq, XA_region, XOA_go, goE_someA, opV, ev, putA, layAll, XOA_nil, XA_skip_seq, XA_skip_nil, XOA_gd, goG_tA, goG_uA, binV, binInt, unV, XA_ret_nil, XA_ret_cons, endFA_r, endFA_n, endTA_r, endTA_n, endRA_r, endRA_n, fltR, resultsA, resAs, resA, XA_block, XA_cond, pickX_t, pickX_f, pickX_b, XA_skip_blk, XA_skip_lp, XA_exit_seq, XA_exit_lp, XA_exit_blk, XA_exit_nil, load1, Ev.loadCells, objCells, bodyCells, setCells, AV.flat, AV.flat1, backR, backV, backCell, mapO, AV.cells, AV.atom, AV.tree, fillV, repeatL, treeCell, freezeAll, eqCells, callV_T, callV_F, passV, passCell, srcCells, sliceBounds, hiB, loB, thenQ_nA, thenQ_xA, thenQ_rA, runK_nA, runK_xA, runK_rA, wrap_i64, wrap_u64, wrap_u32, wrap_u8, wrap_u16, AV.atom, normA, lkE, fixObjs, fixBody, fixV, fixCell, hK, hK', hdd, rI, rR, es, ew1, memA, objA, hul, List.take_of_length_le, wakes_ev]
theorem within_3 (ds : List Dm) (m : Int) (u0 u1 u2 u3 v0 v1 v2 v3 w0 w1 w2 w3 a0 a1 a2 a3 x y : Int) (hC : okC ds) (hv : okN [v0, v1, v2, v3]) (ha : okN [a0, a1, a2, a3]) (hx : 0 ≤ x ∧ x ≤ 255) (hy : 0 ≤ y ∧ y ≤ 255)
    (hr : rightC ds m [v0, v1, v2, v3] [a0, a1, a2, a3] = true) (hK : 3 < ds.length) (hd : x.tmod ds.length = 3) : cvF tab 6 [wayV ds m [u0, u1, u2, u3] [v0, v1, v2, v3] [w0, w1, w2, w3] [a0, a1, a2, a3], .int .u8 x, .int .u8 y] = some (.bool true) := by
  refine cvFA_R (mf := Mf.f6) rfl rfl (by kernel_rfl) ?_
  simp only [Mf.f6]
  have g := rightC_good hr
  have hl := goodC_len g
  have gd := goodC_at g hK
  have gl := good_len gd
  have gn := rightC_node hr hv ha
  have htop := goodN_at gn hv hK
  have bv := hv.at (i := 3) (by omega)
  have ba := ha.at (i := 3) (by omega)
  have hsz := rightC_at hr hK
  rw [show gI [v0, v1, v2, v3] 3 = v3 from rfl] at htop bv hsz
  rw [show gI [a0, a1, a2, a3] 3 = a3 from rfl] at ba hsz
  unfold byte at bv ba
  have er := rright_ev ds m _ _ hC hv ha
  rw [hr] at er
  have elv := rlevels_ev ds m 3 hC
  have hlv : levelsC ds m 3 = ((gD ds 3).S.length : Int) + 1 := by
    unfold levelsC
    rw [if_pos ⟨g, by omega, by omega⟩]
    simp
  rw [hlv] at elv
  have wx : IntKind.i64.wrap x = x := wrap_i64 (by omega) (by omega)
  have wv : IntKind.i64.wrap v3 = v3 := wrap_i64 (by omega) (by omega)
  have hn0 : ¬ ds = [] := fun e => by rw [e] at hK; simp at hK
  have ws : IntKind.i64.wrap (((gD ds 3).S.length : Int) + 1 - v3) = ((gD ds 3).S.length : Int) + 1 - v3 := wrap_i64 (by omega) (by omega)
  have wb : IntKind.u8.wrap (((gD ds 3).S.length : Int) + 1 - v3) = ((gD ds 3).S.length : Int) + 1 - v3 := wrap_u8 (by omega) (by omega)
  have hk0 : ¬ ((gD ds 3).S.length : Int) + 1 - v3 = 0 := by omega
  have r0 := Int.tmod_nonneg (((gD ds 3).S.length : Int) + 1 - v3) hy.1
  have r1 := Int.tmod_lt_of_pos y (b := ((gD ds 3).S.length : Int) + 1 - v3) (by omega)
  obtain ⟨r, hrr⟩ : ∃ r, y.tmod (((gD ds 3).S.length : Int) + 1 - v3) = r := ⟨_, rfl⟩
  rw [hrr] at r0 r1
  have wr : IntKind.u8.wrap (v3 + r) = v3 + r := wrap_u8 (by omega) (by omega)
  have wr2 : IntKind.i64.wrap (v3 + r) = v3 + r := wrap_i64 (by omega) (by omega)
  have hwok : okN [v0, v1, v2, v3 + r] := by
    obtain ⟨_, _, _, _, e, h0, h1, h2, h3⟩ := four hv
    simp only [List.cons.injEq] at e
    obtain ⟨rfl, rfl, rfl, rfl, _⟩ := e
    unfold byte at h0 h1 h2 h3
    exact okN4 ⟨by omega, by omega⟩ ⟨by omega, by omega⟩ ⟨by omega, by omega⟩ ⟨by omega, by omega⟩
  obtain ⟨k1, k2⟩ := raised hr hv ha hK r0 (show gI [v0, v1, v2, v3] 3 + r ≤ _ by rw [show gI [v0, v1, v2, v3] 3 = v3 from rfl]; omega) hwok
  rw [show List.set [v0, v1, v2, v3] 3 (gI [v0, v1, v2, v3] 3 + r) = [v0, v1, v2, v3 + r] from rfl] at k1 k2
  have et := To_ev ds m _ [v0, v1, v2, v3 + r] _ hC hv hwok ha
  have hpok := toP_ok (ds := ds) (m := m) hv hwok ha
  rw [k1] at et
  have hp3 : gI (toP ds m [v0, v1, v2, v3] [v0, v1, v2, v3 + r] [a0, a1, a2, a3]) 3 = liftD (gD ds 3).S (gD ds 3).U v3.toNat (v3 + r).toNat a3 := by
    rw [toP_eq k1, gI_toL ds _ _ _ _ (by omega), k2]; rfl
  have hok := liftOk_of gd bv.1 (show v3 ≤ v3 + r by omega) (show v3 + r ≤ (gD ds 3).S.length by omega) ba.1 hsz
  have hin := liftD_in gd (a := v3.toNat) (b := (v3 + r).toNat) (m := a3) (by omega) (by omega) ba.1 (by rw [Int.toNat_of_nonneg bv.1]; exact hsz)
  rw [Int.toNat_of_nonneg (show 0 ≤ v3 + r by omega)] at hin
  have hsr := sizeD_range (gD ds 3).S (gD ds 3).U (v3 + r)
  have ew := fun ms (hms : List.length ms ≤ 9223372036854775807) => Within_ev ds m _ _ ((3 : Nat) : Int) (v3 + r) ms hC hv ha hms
  have ewd := fun ms => within_in (ds := ds) (m := m) (v := [v0, v1, v2, v3]) (a := [a0, a1, a2, a3]) (i := 3) (lv := v3 + r) ms hr hK hok
  rw [show gI [v0, v1, v2, v3] 3 = v3 from rfl, show gI [a0, a1, a2, a3] 3 = a3 from rfl] at ewd
  generalize liftD (gD ds 3).S (gD ds 3).U v3.toNat (v3 + r).toNat a3 = L at *
  generalize toP ds m [v0, v1, v2, v3] [v0, v1, v2, v3 + r] [a0, a1, a2, a3] = P at *
  obtain ⟨hS, hU⟩ := fits_of (hC.at hK)
  have es := refSize_ev (gD ds 3).S (gD ds 3).U (v3 + r) hS hU
  simp only [rI, rR] at es
  obtain ⟨p0, p1, p2, p3, rfl, -, -, -, -⟩ := four hpok
  rw [show gI [p0, p1, p2, p3] 3 = p3 from rfl] at hp3
  subst hp3
  have wp : IntKind.i64.wrap p3 = p3 := wrap_i64 (by omega) (by omega)
  have ew0 := ew [] (by simp)
  rw [show withinC ds m [v0, v1, v2, v3] [a0, a1, a2, a3] ((3 : Nat) : Int) (v3 + r) [] = false from by rw [ewd]; simp] at ew0
  simp only [List.map, rI] at er et ew0
  have hdd := dropD ds 3 hK
  have hK' : (3 : Int) < ds.length := by omega
  simp [beqI, bneI, mm_min2, mm_max2, mm_min3, mm_max3, startE, lkE, lkX, lkE_rest, sx, substE, opVA, objs0, List.replicate, XA_seq, XA_region, XOA_go, goE_someA, opV, ev, putA, layAll, XOA_nil, XA_skip_seq, XA_skip_nil, XOA_gd, goG_tA, goG_uA, binV, binInt, unV, XA_ret_nil, XA_ret_cons, endFA_r, endFA_n, endTA_r, endTA_n, endRA_r, endRA_n, fltR, resultsA, resAs, resA, XA_block, XA_cond, pickX_t, pickX_f, pickX_b, XA_skip_blk, XA_skip_lp, XA_exit_seq, XA_exit_lp, XA_exit_blk, XA_exit_nil, load1, Ev.loadCells, objCells, bodyCells, setCells, AV.flat, AV.flat1, backR, backV, backCell, mapO, AV.cells, AV.atom, AV.tree, fillV, repeatL, treeCell, freezeAll, eqCells, callV_T, callV_F, passV, passCell, srcCells, sliceBounds, hiB, loB, thenQ_nA, thenQ_xA, thenQ_rA, runK_nA, runK_xA, runK_rA, wrap_i64, wrap_u64, wrap_u32, wrap_u8, wrap_u16, wayV, er, wx, hn0, hd, elv, wv, ws, wb, hk0, hrr, wr, et, wr2]
  simp at ew0
  simp [beqI, bneI, mm_min2, mm_max2, mm_min3, mm_max3, startE, lkE, lkX, lkE_rest, sx, substE, opVA, objs0, List.replicate, XA_seq, XA_region, XOA_go, goE_someA, opV, ev, putA, layAll, XOA_nil, XA_skip_seq, XA_skip_nil, XOA_gd, goG_tA, goG_uA, binV, binInt, unV, XA_ret_nil, XA_ret_cons, endFA_r, endFA_n, endTA_r, endTA_n, endRA_r, endRA_n, fltR, resultsA, resAs, resA, XA_block, XA_cond, pickX_t, pickX_f, pickX_b, XA_skip_blk, XA_skip_lp, XA_exit_seq, XA_exit_lp, XA_exit_blk, XA_exit_nil, load1, Ev.loadCells, objCells, bodyCells, setCells, AV.flat, AV.flat1, backR, backV, backCell, mapO, AV.cells, AV.atom, AV.tree, fillV, repeatL, treeCell, freezeAll, eqCells, callV_T, callV_F, passV, passCell, srcCells, sliceBounds, hiB, loB, thenQ_nA, thenQ_xA, thenQ_rA, runK_nA, runK_xA, runK_rA, wrap_i64, wrap_u64, wrap_u32, wrap_u8, wrap_u16, ew0]
  refine XA_for (fun n => ⟨[(3, .ptr 0 0 0), (7, .int .i64 3), (9, .ptr 2 0 0), (11, .ptr 3 0 0), (12, .int .i64 n)], [⟨0, .var [.ro ds.length (flatD ds), .int .i64 m, .int .u8 u0, .int .u8 u1, .int .u8 u2, .int .u8 u3, .int .u8 v0, .int .u8 v1, .int .u8 v2, .int .u8 v3, .int .u8 w0, .int .u8 w1, .int .u8 w2, .int .u8 w3, .int .u8 a0, .int .u8 a1, .int .u8 a2, .int .u8 a3]⟩, ⟨0, .none⟩, ⟨0, .var [.int .u8 p0, .int .u8 p1, .int .u8 p2, .int .u8 p3]⟩, ⟨0, .var [.int .i64 3, .int .i64 (v3 + r), memA n]⟩, objA n]⟩)
    (fun _ => True) (sizeD (gD ds 3).S (gD ds 3).U (v3 + r)).toNat 0 (Nat.zero_le _) (by simp [AV.atom, normA, lkE, fixObjs, fixBody, fixV, fixCell, memA, objA]) trivial ?_ ?_
  · intro n _ hn _
    have hn' : (n : Int) < sizeD (gD ds 3).S (gD ds 3).U (v3 + r) := by omega
    have ew1 := ew [(n : Int)] (by simp)
    rw [ewd] at ew1
    have hdec : decide (p3 ∈ [(n : Int)]) = decide (p3 = (n : Int)) := by simp
    rw [hdec] at ew1
    have hws := wrap_succ n (sizeD (gD ds 3).S (gD ds 3).U (v3 + r)).toNat hn (by omega)
    simp [rI] at ew1 hdd hK'
    try simp only [hdd, rI, rR] at ew1
    have q1 : (n + 1) * 8 ≤ 140737488355328 := by omega
    have q2 : n + 1 < 4611686018427387904 := by omega
    have hul := upTo_len n
    have hus := upTo_succ n
    cases n with
    | zero =>
      simp at ew1 hn' hws
      simp [beqI, bneI, mm_min2, mm_max2, mm_min3, mm_max3, startE, lkE, lkX, lkE_rest, sx, substE, opVA, objs0, List.replicate, XA_seq, XA_region, XOA_go, goE_someA, opV, ev, putA, layAll, XOA_nil, XA_skip_seq, XA_skip_nil, XOA_gd, goG_tA, goG_uA, binV, binInt, unV, XA_ret_nil, XA_ret_cons, endFA_r, endFA_n, endTA_r, endTA_n, endRA_r, endRA_n, fltR, resultsA, resAs, resA, XA_block, XA_cond, pickX_t, pickX_f, pickX_b, XA_skip_blk, XA_skip_lp, XA_exit_seq, XA_exit_lp, XA_exit_blk, XA_exit_nil, load1, Ev.loadCells, objCells, bodyCells, setCells, AV.flat, AV.flat1, backR, backV, backCell, mapO, AV.cells, AV.atom, AV.tree, fillV, repeatL, treeCell, freezeAll, eqCells, callV_T, callV_F, passV, passCell, srcCells, sliceBounds, hiB, loB, thenQ_nA, thenQ_xA, thenQ_rA, runK_nA, runK_xA, runK_rA, wrap_i64, wrap_u64, wrap_u32, wrap_u8, wrap_u16, AV.atom, normA, lkE, fixObjs, fixBody, fixV, fixCell, hK, hK', hdd, rI, rR, es, hn', ew1, wp, memA, objA, upTo, hws]
    | succ n =>
      have hul' : ((upTo (n + 1)).map (AV.int .i64)).length = n + 1 := by simp [upTo_len]
      simp at ew1 hn' hws
      simp [beqI, bneI, mm_min2, mm_max2, mm_min3, mm_max3, startE, lkE, lkX, lkE_rest, sx, substE, opVA, objs0, List.replicate, XA_seq, XA_region, XOA_go, goE_someA, opV, ev, putA, layAll, XOA_nil, XA_skip_seq, XA_skip_nil, XOA_gd, goG_tA, goG_uA, binV, binInt, unV, XA_ret_nil, XA_ret_cons, endFA_r, endFA_n, endTA_r, endTA_n, endRA_r, endRA_n, fltR, resultsA, resAs, resA, XA_block, XA_cond, pickX_t, pickX_f, pickX_b, XA_skip_blk, XA_skip_lp, XA_exit_seq, XA_exit_lp, XA_exit_blk, XA_exit_nil, load1, Ev.loadCells, objCells, bodyCells, setCells, AV.flat, AV.flat1, backR, backV, backCell, mapO, AV.cells, AV.atom, AV.tree, fillV, repeatL, treeCell, freezeAll, eqCells, callV_T, callV_F, passV, passCell, srcCells, sliceBounds, hiB, loB, thenQ_nA, thenQ_xA, thenQ_rA, runK_nA, runK_xA, runK_rA, wrap_i64, wrap_u64, wrap_u32, wrap_u8, wrap_u16, AV.atom, normA, lkE, fixObjs, fixBody, fixV, fixCell, hK, hK', hdd, rI, rR, es, hn', ew1, wp, memA, objA, hul, hus, hul', q1, q2, hws]
  · intro _
    obtain ⟨n, hn⟩ : ∃ n, (sizeD (gD ds 3).S (gD ds 3).U (v3 + r)).toNat = n + 1 := ⟨(sizeD (gD ds 3).S (gD ds 3).U (v3 + r)).toNat - 1, by omega⟩
    have hnI : sizeD (gD ds 3).S (gD ds 3).U (v3 + r) = (n : Int) + 1 := by omega
    have hpin : p3 ∈ upTo (n + 1) := mem_upTo hin.1 (by omega)
    have ew1 := ew (upTo (n + 1)) (by rw [upTo_len]; omega)
    rw [ewd, decide_eq_true hpin] at ew1
    rw [hnI] at es
    rw [hn]
    have hul := upTo_len (n + 1)
    simp [rI, upTo_len] at ew1 hdd hK'
    try simp only [hdd, rI, rR] at ew1
    simp [beqI, bneI, mm_min2, mm_max2, mm_min3, mm_max3, startE, lkE, lkX, lkE_rest, sx, substE, opVA, objs0, List.replicate, XA_seq, XA_region, XOA_go, goE_someA, opV, ev, putA, layAll, XOA_nil, XA_skip_seq, XA_skip_nil, XOA_gd, goG_tA, goG_uA, binV, binInt, unV, XA_ret_nil, XA_ret_cons, endFA_r, endFA_n, endTA_r, endTA_n, endRA_r, endRA_n, fltR, resultsA, resAs, resA, XA_block, XA_cond, pickX_t, pickX_f, pickX_b, XA_skip_blk, XA_skip_lp, XA_exit_seq, XA_exit_lp, XA_exit_blk, XA_exit_nil, load1, Ev.loadCells, objCells, bodyCells, setCells, AV.flat, AV.flat1, backR, backV, backCell, mapO, AV.cells, AV.atom, AV.tree, fillV, repeatL, treeCell, freezeAll, eqCells, callV_T, callV_F, passV, passCell, srcCells, sliceBounds, hiB, loB, thenQ_nA, thenQ_xA, thenQ_rA, runK_nA, runK_xA, runK_rA, wrap_i64, wrap_u64, wrap_u32, wrap_u8, wrap_u16, AV.atom, normA, lkE, fixObjs, fixBody, fixV, fixCell, hK, hK', hdd, rI, rR, es, ew1, memA, objA, hul, List.take_of_length_le, wakes_ev]
theorem liftWithin_ev (ds : List Dm) (m : Int) (u v w a : List Int) (x y : Int) (hC : okC ds) (hu : okN u) (hv : okN v) (hw : okN w) (ha : okN a) (hx : 0 ≤ x ∧ x ≤ 255) (hy : 0 ≤ y ∧ y ≤ 255) :
    cvF tab 6 [wayV ds m u v w a, .int .u8 x, .int .u8 y] = some (.bool true) := by
  have hv' := hv
  have ha' := ha
  obtain ⟨u0, u1, u2, u3, rfl, -, -, -, -⟩ := four hu
  obtain ⟨v0, v1, v2, v3, rfl, -, -, -, -⟩ := four hv
  obtain ⟨w0, w1, w2, w3, rfl, -, -, -, -⟩ := four hw
  obtain ⟨a0, a1, a2, a3, rfl, -, -, -, -⟩ := four ha
  cases hr : rightC ds m [v0, v1, v2, v3] [a0, a1, a2, a3] with
  | false =>
    refine cvFA_R (mf := Mf.f6) rfl rfl (by kernel_rfl) ?_
    simp only [Mf.f6]
    have er := rright_ev ds m _ _ hC hv' ha'
    rw [hr] at er
    simp only [List.map] at er
    simp [beqI, bneI, mm_min2, mm_max2, mm_min3, mm_max3, startE, lkE, lkX, lkE_rest, sx, substE, opVA, objs0, List.replicate, XA_seq, XA_region, XOA_go, goE_someA, opV, ev, putA, layAll, XOA_nil, XA_skip_seq, XA_skip_nil, XOA_gd, goG_tA, goG_uA, binV, binInt, unV, XA_ret_nil, XA_ret_cons, endFA_r, endFA_n, endTA_r, endTA_n, endRA_r, endRA_n, fltR, resultsA, resAs, resA, XA_block, XA_cond, pickX_t, pickX_f, pickX_b, XA_skip_blk, XA_skip_lp, XA_exit_seq, XA_exit_lp, XA_exit_blk, XA_exit_nil, load1, Ev.loadCells, objCells, bodyCells, setCells, AV.flat, AV.flat1, backR, backV, backCell, mapO, AV.cells, AV.atom, AV.tree, fillV, repeatL, treeCell, freezeAll, eqCells, callV_T, callV_F, passV, passCell, srcCells, sliceBounds, hiB, loB, thenQ_nA, thenQ_xA, thenQ_rA, runK_nA, runK_xA, runK_rA, wrap_i64, wrap_u64, wrap_u32, wrap_u8, wrap_u16, wayV, er, wakes_ev]
  | true =>
    have hl := goodC_len (rightC_good hr)
    have h0 := Int.tmod_nonneg (ds.length : Int) hx.1
    have h1 := Int.tmod_lt_of_pos x (b := (ds.length : Int)) (by omega)
    have h0123 : x.tmod ds.length = 0 ∨ x.tmod ds.length = 1 ∨ x.tmod ds.length = 2 ∨ x.tmod ds.length = 3 := by omega
    rcases h0123 with h | h | h | h
    · exact within_0 ds m u0 u1 u2 u3 v0 v1 v2 v3 w0 w1 w2 w3 a0 a1 a2 a3 x y hC hv' ha' hx hy hr (by omega) h
    · exact within_1 ds m u0 u1 u2 u3 v0 v1 v2 v3 w0 w1 w2 w3 a0 a1 a2 a3 x y hC hv' ha' hx hy hr (by omega) h
    · exact within_2 ds m u0 u1 u2 u3 v0 v1 v2 v3 w0 w1 w2 w3 a0 a1 a2 a3 x y hC hv' ha' hx hy hr (by omega) h
    · exact within_3 ds m u0 u1 u2 u3 v0 v1 v2 v3 w0 w1 w2 w3 a0 a1 a2 a3 x y hC hv' ha' hx hy hr (by omega) h
theorem liftWithin_law (l : List AV) (h : RDargs [gWay, .int .u8, .int .u8] l) : ∃ H1, cfT tab 6 l [] = some (.bool true, H1) := by
  obtain ⟨x, r, rfl, hx, y, r, rfl, hy, z, r, rfl, hz, rfl⟩ := h
  obtain ⟨ds, m, u, v, w, a, rfl, hC, hu, hv, hw, ha⟩ := rdarg_way hx
  obtain ⟨y, rfl, hy'⟩ := rdarg_u8 hy
  obtain ⟨z, rfl, hz'⟩ := rdarg_u8 hz
  exact cvF_bool (liftWithin_ev ds m u v w a y z hC hu hv hw ha hy' hz')
theorem liftWithin_lifted (os : Os) (started : os.Started) (H : Type) (enc : TypeId × Value → H) :
    ReturnsInHanded {} Try.checked os 6 .any (Rows.liftWithinSpec.pre6 enc Try.prog Try.f6 Rows.liftWithinRow.domain false) (Rows.liftWithinSpec.post enc Try.prog Try.f6 false true false false) := by
  refine returnsInHanded_of_change (C := Try.checked) Try.own started (by kernel_rfl) Try.func6
    (ChangeSpec.witness6 (enc := enc) (C := Try.checked) false ⟨#[], #[.agg #[.slice none 0 0, .int .i64 0, .int .u8 0, .int .u8 0, .int .u8 0, .int .u8 0, .int .u8 0, .int .u8 0, .int .u8 0, .int .u8 0, .int .u8 0, .int .u8 0, .int .u8 0, .int .u8 0, .int .u8 0, .int .u8 0, .int .u8 0, .int .u8 0], .int .u8 0, .int .u8 0], []⟩ 8 (by kernel_rfl) (by kernel_rfl) (by kernel_rfl) (by kernel_rfl)) ?_
  intro W base args ds gs before hval hW hcnd _
  have hval' : ∀ (j : Nat) (t : TypeId) (v : Value), Try.f6.params.toList[j]? = some t → args[j]? = some v → Value.okWide Try.prog W .any base t v := fun j t v h1 h2 => hval j t v (by simpa using h1) h2
  obtain ⟨p, q, hA, hV, hpq, _, _⟩ := id hW
  have hg : gtsB Try.prog [gWay, .int .u8, .int .u8] Try.f6.params.toList = true := by kernel_rfl
  refine (law_calls' tab_ok hg liftWithin_law hval' hA).mono fun e W' ⟨he, hb⟩ => ?_
  subst he
  refine ⟨_, rfl, post_true Try.laidOut (rt := 4) (fun ds h => ?_) rfl (by kernel_rfl) (by kernel_rfl) (by kernel_rfl) hW hb⟩
  match ds, h with
  | [_, _, _], _ => rfl
theorem liftWithin_holds : Rows.LiftWithinSaid :=
  OpenClaim.holds_of_wide 6 Try.f6 rfl rfl rfl rfl rfl rfl rfl ⟨rfl, rfl, rfl, rfl, rfl⟩ rfl rfl rfl rfl rfl (by kernel_rfl) Try.func6 (by kernel_rfl)
    (of_decide_eq_true (by kernel_rfl)) (by unfold Func.isWrapper; first | (rw [if_pos (by decide +kernel)]; kernel_rfl) | (rw [if_neg (by decide +kernel)]; exact ⟨rfl, rfl⟩))
    (fun os started H enc _ => liftWithin_lifted os started H enc)
end Go.Proofs.Ytafjljlcdfccjaa
