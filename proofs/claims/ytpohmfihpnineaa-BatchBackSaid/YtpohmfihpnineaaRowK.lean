/- Rows as bytes, and back. -/
import Derived.Test.YtpohmfihpnineaaPgA
import Derived.Test.YtpohmfihpnineaaPgC
set_option linter.unusedSimpArgs false
set_option linter.unusedVariables false
set_option maxHeartbeats 4000000
set_option maxRecDepth 100000
namespace Go.Proofs.Ytpohmfihpnineaa
open Go.Ev
def zigK (v : Int) : Nat := (zigN v).toNat
theorem zigK_eq {v : Int} (hv : inI v) : zigN v = (zigK v : Int) ∧ zigK v < 18446744073709551616 := by
  unfold zigK zigN inI at *
  split <;> omega
def rowB (r : Rw) : List Int := [r.a, r.b, r.c, r.d] ++ digN (zigK r.x) ++ digN (zigK r.y)
theorem rowB_ok {r : Rw} (hr : okW r) : okB (rowB r) := by
  intro c hc
  unfold rowB at hc
  simp only [List.mem_append, List.mem_cons, List.not_mem_nil, or_false] at hc
  rcases hc with (h | h) | h
  · rcases h with rfl | rfl | rfl | rfl
    · exact hr.a
    · exact hr.b
    · exact hr.c
    · exact hr.d
  · exact digN_ok _ c h
  · exact digN_ok _ c h
theorem rowB_len {r : Rw} (hr : okW r) : 6 ≤ (rowB r).length ∧ (rowB r).length ≤ 24 := by
  have h1 := digN_pos (zigK r.x)
  have h2 := digN_pos (zigK r.y)
  have h3 := digN_ten (zigK_eq hr.x).2
  have h4 := digN_ten (zigK_eq hr.y).2
  unfold rowB
  simp only [List.length_append, List.length_cons, List.length_nil]
  omega
theorem rowBytes_ev (r : Rw) (hr : okW r) : cvT tab 34 [.agg (rowC r)] = some (rB (rowB r)) := by
  refine cvTA_R (mf := Mf.f34) rfl rfl (by kernel_rfl) ?_
  simp only [Mf.f34]
  obtain ⟨H0, hH0⟩ : ∃ H0 : List AObj, H0 = [⟨1, .var (rowC r)⟩, ⟨0, .none⟩] := ⟨_, rfl⟩
  have hcl := callV_cloneO (M := tab) (H := H0) (f := 53) (i := 0) (ver := 1) (off := 0) (n := 4) (t := 1) (bytes := 1) (sz := 1) (b := .var (rowC r)) (cs := rowC r) ⟨0, .none⟩ rfl rfl
    (by rw [hH0]; rfl) (by simp [passBody, rowC, mapO, passCell]) (fun H1 => by simp [backBody, rowC, mapO, backCell]) rfl (by omega) (by simp [rowC]) (by simp [rowC, AV.tree]) (by omega) (by omega) (by rw [hH0]; rfl) (by decide)
  subst hH0
  simp only [rowC] at hcl
  simp at hcl
  have e1 := zig_ev r.x hr.x
  have e2 := zig_ev r.y hr.y
  obtain ⟨hx1, hx2⟩ := zigK_eq hr.x
  obtain ⟨hy1, hy2⟩ := zigK_eq hr.y
  have h3 := digN_ten hx2
  rw [hx1] at e1
  rw [hy1] at e2
  have e3 := put_ev [r.a, r.b, r.c, r.d] (zigK r.x) (by simp) hx2
  have e4 := put_ev ([r.a, r.b, r.c, r.d] ++ digN (zigK r.x)) (zigK r.y) (by simp only [List.length_append, List.length_cons, List.length_nil]; omega) hy2
  unfold rowB
  obtain ⟨P1, hP1⟩ : ∃ P, [r.a, r.b, r.c, r.d] ++ digN (zigK r.x) = P := ⟨_, rfl⟩
  rw [hP1] at e3 e4 ⊢
  obtain ⟨P2, hP2⟩ : ∃ P, P1 ++ digN (zigK r.y) = P := ⟨_, rfl⟩
  rw [hP2] at e4 ⊢
  simp only [rB] at e3 e4
  simp at e3
  simp [beqI, bneI, mm_min2, mm_max2, mm_min3, mm_max3, startE, lkE, lkX, lkE_rest, sx, substE, opVA, objs0, List.replicate, XA_seq, XA_region, XOA_go, goE_someA, opV, ev, putA, layAll, XOA_nil, XA_skip_seq, XA_skip_nil, XOA_gd, goG_tA, goG_uA, binV, bi_add, bi_sub, bi_mul, bi_quo, bi_rem, bi_eql, bi_neq, bi_lss, bi_leq, bi_gtr, bi_geq, bi_shl, bi_shr, bi_and, bi_or, bi_xor, unV, XA_ret_nil, XA_ret_cons, endFA_r, endFA_n, endTA_r, endTA_n, endRA_r, endRA_n, endEA_r, endEA_n, List.take, fltR, resultsA, resAs, resA, XA_block, XA_cond, pickX_t, pickX_f, pickX_b, XA_skip_blk, XA_skip_lp, XA_exit_seq, XA_exit_lp, XA_exit_blk, XA_exit_nil, load1, Ev.loadCells, objCells, bodyCells, setCells, AV.flat, AV.flat1, backR, backV, backCell, mapO, AV.cells, AV.atom, AV.tree, fillV, repeatL, treeCell, freezeAll, eqCells, callV_T, callV_F, passN, passV, passCell, srcCells, sliceBounds, hiB, loB, thenQ_nA, thenQ_xA, thenQ_rA, runK_nA, runK_xA, runK_rA, wrap_i64, wrap_u64, wrap_u32, wrap_u8, wrap_u16, rowC, hcl]
  refine XA_for (fun i => ⟨[(3, (if i = 0 then .own 1 0 0 4 1 else if i = 1 then rB P1 else rB P2)), (10, .agg [.int .i64 r.x, .int .i64 r.y]), (11, .int .i64 i)], [⟨0, .none⟩, ⟨0, .row (decide (i = 0)) 1 [.int .u8 r.a, .int .u8 r.b, .int .u8 r.c, .int .u8 r.d]⟩]⟩)
    (fun i => True) 2 0 (by omega) (by simp [AV.atom, normA, lkE, fixObjs, fixBody, fixV, fixCell]) trivial ?_ ?_
  · intro i _ hi _
    have h01 : i = 0 ∨ i = 1 := by omega
    rcases h01 with rfl | rfl
    · have w := wrap_succ 0 2 (by omega) (by omega)
      simp at w
      simp [beqI, bneI, mm_min2, mm_max2, mm_min3, mm_max3, startE, lkE, lkX, lkE_rest, sx, substE, opVA, objs0, List.replicate, XA_seq, XA_region, XOA_go, goE_someA, opV, ev, putA, layAll, XOA_nil, XA_skip_seq, XA_skip_nil, XOA_gd, goG_tA, goG_uA, binV, bi_add, bi_sub, bi_mul, bi_quo, bi_rem, bi_eql, bi_neq, bi_lss, bi_leq, bi_gtr, bi_geq, bi_shl, bi_shr, bi_and, bi_or, bi_xor, unV, XA_ret_nil, XA_ret_cons, endFA_r, endFA_n, endTA_r, endTA_n, endRA_r, endRA_n, endEA_r, endEA_n, List.take, fltR, resultsA, resAs, resA, XA_block, XA_cond, pickX_t, pickX_f, pickX_b, XA_skip_blk, XA_skip_lp, XA_exit_seq, XA_exit_lp, XA_exit_blk, XA_exit_nil, load1, Ev.loadCells, objCells, bodyCells, setCells, AV.flat, AV.flat1, backR, backV, backCell, mapO, AV.cells, AV.atom, AV.tree, fillV, repeatL, treeCell, freezeAll, eqCells, callV_T, callV_F, passN, passV, passCell, srcCells, sliceBounds, hiB, loB, thenQ_nA, thenQ_xA, thenQ_rA, runK_nA, runK_xA, runK_rA, wrap_i64, wrap_u64, wrap_u32, wrap_u8, wrap_u16, AV.atom, normA, lkE, fixObjs, fixBody, fixV, fixCell, e1, e3, w, rB]
    · have w := wrap_succ 1 2 (by omega) (by omega)
      simp at w
      simp [beqI, bneI, mm_min2, mm_max2, mm_min3, mm_max3, startE, lkE, lkX, lkE_rest, sx, substE, opVA, objs0, List.replicate, XA_seq, XA_region, XOA_go, goE_someA, opV, ev, putA, layAll, XOA_nil, XA_skip_seq, XA_skip_nil, XOA_gd, goG_tA, goG_uA, binV, bi_add, bi_sub, bi_mul, bi_quo, bi_rem, bi_eql, bi_neq, bi_lss, bi_leq, bi_gtr, bi_geq, bi_shl, bi_shr, bi_and, bi_or, bi_xor, unV, XA_ret_nil, XA_ret_cons, endFA_r, endFA_n, endTA_r, endTA_n, endRA_r, endRA_n, endEA_r, endEA_n, List.take, fltR, resultsA, resAs, resA, XA_block, XA_cond, pickX_t, pickX_f, pickX_b, XA_skip_blk, XA_skip_lp, XA_exit_seq, XA_exit_lp, XA_exit_blk, XA_exit_nil, load1, Ev.loadCells, objCells, bodyCells, setCells, AV.flat, AV.flat1, backR, backV, backCell, mapO, AV.cells, AV.atom, AV.tree, fillV, repeatL, treeCell, freezeAll, eqCells, callV_T, callV_F, passN, passV, passCell, srcCells, sliceBounds, hiB, loB, thenQ_nA, thenQ_xA, thenQ_rA, runK_nA, runK_xA, runK_rA, wrap_i64, wrap_u64, wrap_u32, wrap_u8, wrap_u16, AV.atom, normA, lkE, fixObjs, fixBody, fixV, fixCell, e2, e4, w, rB]
  · intro _
    simp [beqI, bneI, mm_min2, mm_max2, mm_min3, mm_max3, startE, lkE, lkX, lkE_rest, sx, substE, opVA, objs0, List.replicate, XA_seq, XA_region, XOA_go, goE_someA, opV, ev, putA, layAll, XOA_nil, XA_skip_seq, XA_skip_nil, XOA_gd, goG_tA, goG_uA, binV, bi_add, bi_sub, bi_mul, bi_quo, bi_rem, bi_eql, bi_neq, bi_lss, bi_leq, bi_gtr, bi_geq, bi_shl, bi_shr, bi_and, bi_or, bi_xor, unV, XA_ret_nil, XA_ret_cons, endFA_r, endFA_n, endTA_r, endTA_n, endRA_r, endRA_n, endEA_r, endEA_n, List.take, fltR, resultsA, resAs, resA, XA_block, XA_cond, pickX_t, pickX_f, pickX_b, XA_skip_blk, XA_skip_lp, XA_exit_seq, XA_exit_lp, XA_exit_blk, XA_exit_nil, load1, Ev.loadCells, objCells, bodyCells, setCells, AV.flat, AV.flat1, backR, backV, backCell, mapO, AV.cells, AV.atom, AV.tree, fillV, repeatL, treeCell, freezeAll, eqCells, callV_T, callV_F, passN, passV, passCell, srcCells, sliceBounds, hiB, loB, thenQ_nA, thenQ_xA, thenQ_rA, runK_nA, runK_xA, runK_rA, wrap_i64, wrap_u64, wrap_u32, wrap_u8, wrap_u16, AV.atom, normA, lkE, fixObjs, fixBody, fixV, fixCell, rB]
def readW (b : List Int) : Option (Rw × Nat) :=
  match b with
  | p :: q :: s :: t :: l => match gv l 0 0 with
    | some (u, n) => match gv (l.drop n) 0 0 with
      | some (v, m) => some (⟨p, q, s, t, zagN u, zagN v⟩, 4 + n + m)
      | none => none
    | none => none
  | _ => none
def readWV : Option (Rw × Nat) → AV
  | some (r, n) => .tup [.agg (rowC r), .int .i64 n, .bool true]
  | none => .tup [.agg (rowC ⟨0, 0, 0, 0, 0, 0⟩), .int .i64 0, .bool false]
theorem gv_bnd : ∀ (l : List Int) (i : Nat) (a v : Int) (n : Nat), okB l → i ≤ 10 → 0 ≤ a → (i ≤ 9 → a < 128 ^ i) → gv l i a = some (v, n) → 0 ≤ v ∧ v ≤ 18446744073709551615
  | [], i, a, v, n, _, _, _, _, h => by simp [gv] at h
  | c :: r, i, a, v, n, hb, hi, h0, h1, h => by
    have hc := hb c (by simp)
    unfold byte at hc
    simp only [gv] at h
    split at h
    · cases h
    · rename_i hi10
      have h1 := h1 (by omega)
      have hq : (128 : Int) ^ (i + 1) = 128 ^ i * 128 := Int.pow_succ ..
      have hp : (0 : Int) < 128 ^ i := Int.pow_pos (by omega)
      split at h
      · have hq2 : c % 128 * 128 ^ i ≤ 127 * 128 ^ i := Int.mul_le_mul_of_nonneg_right (by omega) (by omega)
        have hq3 : 0 ≤ c % 128 * 128 ^ i := Int.mul_nonneg (by omega) (by omega)
        exact gv_bnd r (i + 1) _ v n (fun x hx => hb x (by simp [hx])) (by omega) (by omega) (fun _ => by rw [hq]; omega) h
      · split at h
        · cases h
        · rename_i hc2 hc3
          cases h
          have hq3 : 0 ≤ c * 128 ^ i := Int.mul_nonneg (by omega) (by omega)
          by_cases h9 : i = 9
          · subst h9
            have : c ≤ 1 := by omega
            have hq2 : c * 128 ^ 9 ≤ 1 * 128 ^ 9 := Int.mul_le_mul_of_nonneg_right this (by omega)
            simp at hq2 h1 hq3 ⊢
            omega
          · have hq2 : c * 128 ^ i ≤ 127 * 128 ^ i := Int.mul_le_mul_of_nonneg_right (by omega) (by omega)
            have h9 : (128 : Int) ^ (i + 1) ≤ 128 ^ 9 := by
              rw [pow128, pow128]
              exact Int.ofNat_le.2 (Nat.pow_le_pow_right (by omega) (by omega))
            rw [hq] at h9
            simp at h9
            omega
theorem gv_inU {b : List Int} {u : Int} {n : Nat} (hb : okB b) (h : gv b 0 0 = some (u, n)) : inU u := by
  have := gv_bnd b 0 0 u n hb (by omega) (by omega) (by simp) h
  exact this
theorem okB_drop {b : List Int} (hb : okB b) (n : Nat) : okB (b.drop n) := fun x hx => hb x (List.mem_of_mem_drop hx)
theorem rowRead_ev (b : List Int) (hb : okB b) (hl : b.length ≤ 1000000) : cvF tab 38 [rB b] = some (readWV (readW b)) := by
  refine cvFA_R (mf := Mf.f38) rfl rfl (by kernel_rfl) ?_
  simp only [Mf.f38]
  match b, hb, hl with
  | [], _, _ => simp [beqI, bneI, mm_min2, mm_max2, mm_min3, mm_max3, startE, lkE, lkX, lkE_rest, sx, substE, opVA, objs0, List.replicate, XA_seq, XA_region, XOA_go, goE_someA, opV, ev, putA, layAll, XOA_nil, XA_skip_seq, XA_skip_nil, XOA_gd, goG_tA, goG_uA, binV, bi_add, bi_sub, bi_mul, bi_quo, bi_rem, bi_eql, bi_neq, bi_lss, bi_leq, bi_gtr, bi_geq, bi_shl, bi_shr, bi_and, bi_or, bi_xor, unV, XA_ret_nil, XA_ret_cons, endFA_r, endFA_n, endTA_r, endTA_n, endRA_r, endRA_n, endEA_r, endEA_n, List.take, fltR, resultsA, resAs, resA, XA_block, XA_cond, pickX_t, pickX_f, pickX_b, XA_skip_blk, XA_skip_lp, XA_exit_seq, XA_exit_lp, XA_exit_blk, XA_exit_nil, load1, Ev.loadCells, objCells, bodyCells, setCells, AV.flat, AV.flat1, backR, backV, backCell, mapO, AV.cells, AV.atom, AV.tree, fillV, repeatL, treeCell, freezeAll, eqCells, callV_T, callV_F, passN, passV, passCell, srcCells, sliceBounds, hiB, loB, thenQ_nA, thenQ_xA, thenQ_rA, runK_nA, runK_xA, runK_rA, wrap_i64, wrap_u64, wrap_u32, wrap_u8, wrap_u16, rB, readW, readWV, rowC]
  | [p], _, _ => simp [beqI, bneI, mm_min2, mm_max2, mm_min3, mm_max3, startE, lkE, lkX, lkE_rest, sx, substE, opVA, objs0, List.replicate, XA_seq, XA_region, XOA_go, goE_someA, opV, ev, putA, layAll, XOA_nil, XA_skip_seq, XA_skip_nil, XOA_gd, goG_tA, goG_uA, binV, bi_add, bi_sub, bi_mul, bi_quo, bi_rem, bi_eql, bi_neq, bi_lss, bi_leq, bi_gtr, bi_geq, bi_shl, bi_shr, bi_and, bi_or, bi_xor, unV, XA_ret_nil, XA_ret_cons, endFA_r, endFA_n, endTA_r, endTA_n, endRA_r, endRA_n, endEA_r, endEA_n, List.take, fltR, resultsA, resAs, resA, XA_block, XA_cond, pickX_t, pickX_f, pickX_b, XA_skip_blk, XA_skip_lp, XA_exit_seq, XA_exit_lp, XA_exit_blk, XA_exit_nil, load1, Ev.loadCells, objCells, bodyCells, setCells, AV.flat, AV.flat1, backR, backV, backCell, mapO, AV.cells, AV.atom, AV.tree, fillV, repeatL, treeCell, freezeAll, eqCells, callV_T, callV_F, passN, passV, passCell, srcCells, sliceBounds, hiB, loB, thenQ_nA, thenQ_xA, thenQ_rA, runK_nA, runK_xA, runK_rA, wrap_i64, wrap_u64, wrap_u32, wrap_u8, wrap_u16, rB, readW, readWV, rowC]
  | [p, q], _, _ => simp [beqI, bneI, mm_min2, mm_max2, mm_min3, mm_max3, startE, lkE, lkX, lkE_rest, sx, substE, opVA, objs0, List.replicate, XA_seq, XA_region, XOA_go, goE_someA, opV, ev, putA, layAll, XOA_nil, XA_skip_seq, XA_skip_nil, XOA_gd, goG_tA, goG_uA, binV, bi_add, bi_sub, bi_mul, bi_quo, bi_rem, bi_eql, bi_neq, bi_lss, bi_leq, bi_gtr, bi_geq, bi_shl, bi_shr, bi_and, bi_or, bi_xor, unV, XA_ret_nil, XA_ret_cons, endFA_r, endFA_n, endTA_r, endTA_n, endRA_r, endRA_n, endEA_r, endEA_n, List.take, fltR, resultsA, resAs, resA, XA_block, XA_cond, pickX_t, pickX_f, pickX_b, XA_skip_blk, XA_skip_lp, XA_exit_seq, XA_exit_lp, XA_exit_blk, XA_exit_nil, load1, Ev.loadCells, objCells, bodyCells, setCells, AV.flat, AV.flat1, backR, backV, backCell, mapO, AV.cells, AV.atom, AV.tree, fillV, repeatL, treeCell, freezeAll, eqCells, callV_T, callV_F, passN, passV, passCell, srcCells, sliceBounds, hiB, loB, thenQ_nA, thenQ_xA, thenQ_rA, runK_nA, runK_xA, runK_rA, wrap_i64, wrap_u64, wrap_u32, wrap_u8, wrap_u16, rB, readW, readWV, rowC]
  | [p, q, s], _, _ => simp [beqI, bneI, mm_min2, mm_max2, mm_min3, mm_max3, startE, lkE, lkX, lkE_rest, sx, substE, opVA, objs0, List.replicate, XA_seq, XA_region, XOA_go, goE_someA, opV, ev, putA, layAll, XOA_nil, XA_skip_seq, XA_skip_nil, XOA_gd, goG_tA, goG_uA, binV, bi_add, bi_sub, bi_mul, bi_quo, bi_rem, bi_eql, bi_neq, bi_lss, bi_leq, bi_gtr, bi_geq, bi_shl, bi_shr, bi_and, bi_or, bi_xor, unV, XA_ret_nil, XA_ret_cons, endFA_r, endFA_n, endTA_r, endTA_n, endRA_r, endRA_n, endEA_r, endEA_n, List.take, fltR, resultsA, resAs, resA, XA_block, XA_cond, pickX_t, pickX_f, pickX_b, XA_skip_blk, XA_skip_lp, XA_exit_seq, XA_exit_lp, XA_exit_blk, XA_exit_nil, load1, Ev.loadCells, objCells, bodyCells, setCells, AV.flat, AV.flat1, backR, backV, backCell, mapO, AV.cells, AV.atom, AV.tree, fillV, repeatL, treeCell, freezeAll, eqCells, callV_T, callV_F, passN, passV, passCell, srcCells, sliceBounds, hiB, loB, thenQ_nA, thenQ_xA, thenQ_rA, runK_nA, runK_xA, runK_rA, wrap_i64, wrap_u64, wrap_u32, wrap_u8, wrap_u16, rB, readW, readWV, rowC]
  | p :: q :: s :: t :: l, hb, hl =>
    have hok : okB l := fun x hx => hb x (by simp [hx])
    simp only [List.length_cons] at hl
    have g1 := get_ev l hok (by omega)
    have hd4 := rB_drop (p :: q :: s :: t :: l) 4 (by simp)
    simp only [List.drop_succ_cons, List.drop_zero] at hd4
    have hdn : ∀ n, n ≤ l.length → AV.ro ((p :: q :: s :: t :: l).length - (4 + n)) ((((p :: q :: s :: t :: l).map (AV.int .u8)).drop (4 + n)).take ((p :: q :: s :: t :: l).length - (4 + n))) = rB (l.drop n) := by
      intro n hn
      have := rB_drop (p :: q :: s :: t :: l) (4 + n) (by simp; omega)
      rw [this, show 4 + n = n + 1 + 1 + 1 + 1 from by omega]
      simp only [List.drop_succ_cons]
    have htk : List.take 4 ((p :: q :: s :: t :: l).map (AV.int .u8)) = [.int .u8 p, .int .u8 q, .int .u8 s, .int .u8 t] := rfl
    have hN : (p :: q :: s :: t :: l).length = l.length + 4 := rfl
    have hcl : ((p :: q :: s :: t :: l).map (AV.int .u8)).length = (p :: q :: s :: t :: l).length := List.length_map ..
    simp only [readW, rB] at hd4 hdn g1 ⊢
    generalize (p :: q :: s :: t :: l).map (AV.int .u8) = cells at *
    generalize hNN : (p :: q :: s :: t :: l).length = N at *
    have c1 : ¬ ((N : Int) < 4) := by omega
    have hmin : min N 4 = 4 := by omega
    have c4 : (4 : Int) ≤ N := by omega
    simp [beqI, bneI, mm_min2, mm_max2, mm_min3, mm_max3, startE, lkE, lkX, lkE_rest, sx, substE, opVA, objs0, List.replicate, XA_seq, XA_region, XOA_go, goE_someA, opV, ev, putA, layAll, XOA_nil, XA_skip_seq, XA_skip_nil, XOA_gd, goG_tA, goG_uA, binV, bi_add, bi_sub, bi_mul, bi_quo, bi_rem, bi_eql, bi_neq, bi_lss, bi_leq, bi_gtr, bi_geq, bi_shl, bi_shr, bi_and, bi_or, bi_xor, unV, XA_ret_nil, XA_ret_cons, endFA_r, endFA_n, endTA_r, endTA_n, endRA_r, endRA_n, endEA_r, endEA_n, List.take, fltR, resultsA, resAs, resA, XA_block, XA_cond, pickX_t, pickX_f, pickX_b, XA_skip_blk, XA_skip_lp, XA_exit_seq, XA_exit_lp, XA_exit_blk, XA_exit_nil, load1, Ev.loadCells, objCells, bodyCells, setCells, AV.flat, AV.flat1, backR, backV, backCell, mapO, AV.cells, AV.atom, AV.tree, fillV, repeatL, treeCell, freezeAll, eqCells, callV_T, callV_F, passN, passV, passCell, srcCells, sliceBounds, hiB, loB, thenQ_nA, thenQ_xA, thenQ_rA, runK_nA, runK_xA, runK_rA, wrap_i64, wrap_u64, wrap_u32, wrap_u8, wrap_u16, c1, hmin, htk, hcl]
    have w0 := wrap_succ 0 2 (by omega) (by omega)
    have w1 := wrap_succ 1 2 (by omega) (by omega)
    simp at w0 w1
    cases e1 : gv l 0 0 with
    | none =>
      rw [e1] at g1
      simp only [getV] at g1
      refine XA_for (fun i => ⟨[(0, .ro N cells), (2, .ptr 0 0 0), (5, .ptr 1 0 0), (6, .int .i64 4), (19, .int .i64 i)], [⟨0, .var [.int .u8 0, .int .u8 0, .int .u8 0, .int .u8 0, .int .i64 0, .int .i64 0]⟩, ⟨0, .var [.int .u8 p, .int .u8 q, .int .u8 s, .int .u8 t, .int .i64 0, .int .i64 0]⟩]⟩)
        (fun i => i = 0) 2 0 (by omega) (by simp [AV.atom, normA, lkE, fixObjs, fixBody, fixV, fixCell]) rfl ?_ (fun h => by omega)
      intro i _ _ hi
      subst hi
      simp [beqI, bneI, mm_min2, mm_max2, mm_min3, mm_max3, startE, lkE, lkX, lkE_rest, sx, substE, opVA, objs0, List.replicate, XA_seq, XA_region, XOA_go, goE_someA, opV, ev, putA, layAll, XOA_nil, XA_skip_seq, XA_skip_nil, XOA_gd, goG_tA, goG_uA, binV, bi_add, bi_sub, bi_mul, bi_quo, bi_rem, bi_eql, bi_neq, bi_lss, bi_leq, bi_gtr, bi_geq, bi_shl, bi_shr, bi_and, bi_or, bi_xor, unV, XA_ret_nil, XA_ret_cons, endFA_r, endFA_n, endTA_r, endTA_n, endRA_r, endRA_n, endEA_r, endEA_n, List.take, fltR, resultsA, resAs, resA, XA_block, XA_cond, pickX_t, pickX_f, pickX_b, XA_skip_blk, XA_skip_lp, XA_exit_seq, XA_exit_lp, XA_exit_blk, XA_exit_nil, load1, Ev.loadCells, objCells, bodyCells, setCells, AV.flat, AV.flat1, backR, backV, backCell, mapO, AV.cells, AV.atom, AV.tree, fillV, repeatL, treeCell, freezeAll, eqCells, callV_T, callV_F, passN, passV, passCell, srcCells, sliceBounds, hiB, loB, thenQ_nA, thenQ_xA, thenQ_rA, runK_nA, runK_xA, runK_rA, wrap_i64, wrap_u64, wrap_u32, wrap_u8, wrap_u16, AV.atom, normA, lkE, fixObjs, fixBody, fixV, fixCell, c4, hd4, g1, readWV, rowC]
    | some x =>
      obtain ⟨u, n⟩ := x
      rw [e1] at g1
      simp only [getV] at g1
      have hn := gv_nn hok e1
      have z1 := zag_ev u (gv_inU hok e1)
      have g2 := get_ev (l.drop n) (okB_drop hok n) (by rw [List.length_drop]; omega)
      have hd := hdn n hn.2
      simp only
      simp only [rB, List.length_drop, List.map_drop] at g2 hd
      obtain ⟨k, hk⟩ : ∃ k, 4 + n = k := ⟨_, rfl⟩
      have wk : IntKind.i64.wrap (4 + (n : Int)) = (k : Int) := by rw [wrap_i64 (by omega) (by omega)]; omega
      have hkN : (k : Int) ≤ N := by omega
      have hk0 : (0 : Int) ≤ k := by omega
      rw [hk] at hd
      cases e2 : gv (l.drop n) 0 0 with
      | none =>
        rw [e2] at g2
        simp only [getV] at g2
        refine XA_for (fun i => ⟨[(0, .ro N cells), (2, .ptr 0 0 0), (5, .ptr 1 0 0), (6, .int .i64 (if i = 0 then 4 else k)), (19, .int .i64 i)], [⟨0, .var [.int .u8 0, .int .u8 0, .int .u8 0, .int .u8 0, .int .i64 0, .int .i64 0]⟩, ⟨0, .var [.int .u8 p, .int .u8 q, .int .u8 s, .int .u8 t, .int .i64 (if i = 0 then 0 else zagN u), .int .i64 0]⟩]⟩)
          (fun i => i ≤ 1) 2 0 (by omega) (by simp [AV.atom, normA, lkE, fixObjs, fixBody, fixV, fixCell]) (by omega) ?_ (fun h => by omega)
        intro i _ _ hi
        have h01 : i = 0 ∨ i = 1 := by omega
        rcases h01 with rfl | rfl
        · simp [beqI, bneI, mm_min2, mm_max2, mm_min3, mm_max3, startE, lkE, lkX, lkE_rest, sx, substE, opVA, objs0, List.replicate, XA_seq, XA_region, XOA_go, goE_someA, opV, ev, putA, layAll, XOA_nil, XA_skip_seq, XA_skip_nil, XOA_gd, goG_tA, goG_uA, binV, bi_add, bi_sub, bi_mul, bi_quo, bi_rem, bi_eql, bi_neq, bi_lss, bi_leq, bi_gtr, bi_geq, bi_shl, bi_shr, bi_and, bi_or, bi_xor, unV, XA_ret_nil, XA_ret_cons, endFA_r, endFA_n, endTA_r, endTA_n, endRA_r, endRA_n, endEA_r, endEA_n, List.take, fltR, resultsA, resAs, resA, XA_block, XA_cond, pickX_t, pickX_f, pickX_b, XA_skip_blk, XA_skip_lp, XA_exit_seq, XA_exit_lp, XA_exit_blk, XA_exit_nil, load1, Ev.loadCells, objCells, bodyCells, setCells, AV.flat, AV.flat1, backR, backV, backCell, mapO, AV.cells, AV.atom, AV.tree, fillV, repeatL, treeCell, freezeAll, eqCells, callV_T, callV_F, passN, passV, passCell, srcCells, sliceBounds, hiB, loB, thenQ_nA, thenQ_xA, thenQ_rA, runK_nA, runK_xA, runK_rA, wrap_i64, wrap_u64, wrap_u32, wrap_u8, wrap_u16, AV.atom, normA, lkE, fixObjs, fixBody, fixV, fixCell, c4, hd4, g1, z1, wk, w0]
        · simp [beqI, bneI, mm_min2, mm_max2, mm_min3, mm_max3, startE, lkE, lkX, lkE_rest, sx, substE, opVA, objs0, List.replicate, XA_seq, XA_region, XOA_go, goE_someA, opV, ev, putA, layAll, XOA_nil, XA_skip_seq, XA_skip_nil, XOA_gd, goG_tA, goG_uA, binV, bi_add, bi_sub, bi_mul, bi_quo, bi_rem, bi_eql, bi_neq, bi_lss, bi_leq, bi_gtr, bi_geq, bi_shl, bi_shr, bi_and, bi_or, bi_xor, unV, XA_ret_nil, XA_ret_cons, endFA_r, endFA_n, endTA_r, endTA_n, endRA_r, endRA_n, endEA_r, endEA_n, List.take, fltR, resultsA, resAs, resA, XA_block, XA_cond, pickX_t, pickX_f, pickX_b, XA_skip_blk, XA_skip_lp, XA_exit_seq, XA_exit_lp, XA_exit_blk, XA_exit_nil, load1, Ev.loadCells, objCells, bodyCells, setCells, AV.flat, AV.flat1, backR, backV, backCell, mapO, AV.cells, AV.atom, AV.tree, fillV, repeatL, treeCell, freezeAll, eqCells, callV_T, callV_F, passN, passV, passCell, srcCells, sliceBounds, hiB, loB, thenQ_nA, thenQ_xA, thenQ_rA, runK_nA, runK_xA, runK_rA, wrap_i64, wrap_u64, wrap_u32, wrap_u8, wrap_u16, AV.atom, normA, lkE, fixObjs, fixBody, fixV, fixCell, hkN, hk0, hd, g2, readWV, rowC]
      | some y =>
        obtain ⟨v, m⟩ := y
        rw [e2] at g2
        simp only [getV] at g2
        have hm := gv_nn (okB_drop hok n) e2
        rw [List.length_drop] at hm
        have z2 := zag_ev v (gv_inU (okB_drop hok n) e2)
        obtain ⟨k2, hk2⟩ : ∃ k2, k + m = k2 := ⟨_, rfl⟩
        have wk2 : IntKind.i64.wrap ((k : Int) + (m : Int)) = (k2 : Int) := by rw [wrap_i64 (by omega) (by omega)]; omega
        simp only [hk, hk2]
        refine XA_for (fun i => ⟨[(0, .ro N cells), (2, .ptr 0 0 0), (5, .ptr 1 0 0), (6, .int .i64 (if i = 0 then 4 else if i = 1 then k else k2)), (19, .int .i64 i)], [⟨0, .var [.int .u8 0, .int .u8 0, .int .u8 0, .int .u8 0, .int .i64 0, .int .i64 0]⟩, ⟨0, .var [.int .u8 p, .int .u8 q, .int .u8 s, .int .u8 t, .int .i64 (if i = 0 then 0 else zagN u), .int .i64 (if 1 < i then zagN v else 0)]⟩]⟩)
          (fun i => True) 2 0 (by omega) (by simp [AV.atom, normA, lkE, fixObjs, fixBody, fixV, fixCell]) trivial ?_ ?_
        · intro i _ _ _
          have h01 : i = 0 ∨ i = 1 := by omega
          rcases h01 with rfl | rfl
          · simp [beqI, bneI, mm_min2, mm_max2, mm_min3, mm_max3, startE, lkE, lkX, lkE_rest, sx, substE, opVA, objs0, List.replicate, XA_seq, XA_region, XOA_go, goE_someA, opV, ev, putA, layAll, XOA_nil, XA_skip_seq, XA_skip_nil, XOA_gd, goG_tA, goG_uA, binV, bi_add, bi_sub, bi_mul, bi_quo, bi_rem, bi_eql, bi_neq, bi_lss, bi_leq, bi_gtr, bi_geq, bi_shl, bi_shr, bi_and, bi_or, bi_xor, unV, XA_ret_nil, XA_ret_cons, endFA_r, endFA_n, endTA_r, endTA_n, endRA_r, endRA_n, endEA_r, endEA_n, List.take, fltR, resultsA, resAs, resA, XA_block, XA_cond, pickX_t, pickX_f, pickX_b, XA_skip_blk, XA_skip_lp, XA_exit_seq, XA_exit_lp, XA_exit_blk, XA_exit_nil, load1, Ev.loadCells, objCells, bodyCells, setCells, AV.flat, AV.flat1, backR, backV, backCell, mapO, AV.cells, AV.atom, AV.tree, fillV, repeatL, treeCell, freezeAll, eqCells, callV_T, callV_F, passN, passV, passCell, srcCells, sliceBounds, hiB, loB, thenQ_nA, thenQ_xA, thenQ_rA, runK_nA, runK_xA, runK_rA, wrap_i64, wrap_u64, wrap_u32, wrap_u8, wrap_u16, AV.atom, normA, lkE, fixObjs, fixBody, fixV, fixCell, c4, hd4, g1, z1, wk, w0]
          · simp [beqI, bneI, mm_min2, mm_max2, mm_min3, mm_max3, startE, lkE, lkX, lkE_rest, sx, substE, opVA, objs0, List.replicate, XA_seq, XA_region, XOA_go, goE_someA, opV, ev, putA, layAll, XOA_nil, XA_skip_seq, XA_skip_nil, XOA_gd, goG_tA, goG_uA, binV, bi_add, bi_sub, bi_mul, bi_quo, bi_rem, bi_eql, bi_neq, bi_lss, bi_leq, bi_gtr, bi_geq, bi_shl, bi_shr, bi_and, bi_or, bi_xor, unV, XA_ret_nil, XA_ret_cons, endFA_r, endFA_n, endTA_r, endTA_n, endRA_r, endRA_n, endEA_r, endEA_n, List.take, fltR, resultsA, resAs, resA, XA_block, XA_cond, pickX_t, pickX_f, pickX_b, XA_skip_blk, XA_skip_lp, XA_exit_seq, XA_exit_lp, XA_exit_blk, XA_exit_nil, load1, Ev.loadCells, objCells, bodyCells, setCells, AV.flat, AV.flat1, backR, backV, backCell, mapO, AV.cells, AV.atom, AV.tree, fillV, repeatL, treeCell, freezeAll, eqCells, callV_T, callV_F, passN, passV, passCell, srcCells, sliceBounds, hiB, loB, thenQ_nA, thenQ_xA, thenQ_rA, runK_nA, runK_xA, runK_rA, wrap_i64, wrap_u64, wrap_u32, wrap_u8, wrap_u16, AV.atom, normA, lkE, fixObjs, fixBody, fixV, fixCell, hkN, hk0, hd, g2, z2, wk2, w1]
        · intro _
          simp [beqI, bneI, mm_min2, mm_max2, mm_min3, mm_max3, startE, lkE, lkX, lkE_rest, sx, substE, opVA, objs0, List.replicate, XA_seq, XA_region, XOA_go, goE_someA, opV, ev, putA, layAll, XOA_nil, XA_skip_seq, XA_skip_nil, XOA_gd, goG_tA, goG_uA, binV, bi_add, bi_sub, bi_mul, bi_quo, bi_rem, bi_eql, bi_neq, bi_lss, bi_leq, bi_gtr, bi_geq, bi_shl, bi_shr, bi_and, bi_or, bi_xor, unV, XA_ret_nil, XA_ret_cons, endFA_r, endFA_n, endTA_r, endTA_n, endRA_r, endRA_n, endEA_r, endEA_n, List.take, fltR, resultsA, resAs, resA, XA_block, XA_cond, pickX_t, pickX_f, pickX_b, XA_skip_blk, XA_skip_lp, XA_exit_seq, XA_exit_lp, XA_exit_blk, XA_exit_nil, load1, Ev.loadCells, objCells, bodyCells, setCells, AV.flat, AV.flat1, backR, backV, backCell, mapO, AV.cells, AV.atom, AV.tree, fillV, repeatL, treeCell, freezeAll, eqCells, callV_T, callV_F, passN, passV, passCell, srcCells, sliceBounds, hiB, loB, thenQ_nA, thenQ_xA, thenQ_rA, runK_nA, runK_xA, runK_rA, wrap_i64, wrap_u64, wrap_u32, wrap_u8, wrap_u16, AV.atom, normA, lkE, fixObjs, fixBody, fixV, fixCell, readWV, rowC]
end Go.Proofs.Ytpohmfihpnineaa
