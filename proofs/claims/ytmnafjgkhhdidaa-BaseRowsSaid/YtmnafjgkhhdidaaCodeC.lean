/- The number at the beginning of bytes. -/
import Derived.Test.YtmnafjgkhhdidaaCodeB
set_option linter.unusedSimpArgs false
set_option linter.unusedVariables false
set_option maxHeartbeats 4000000
set_option maxRecDepth 100000
namespace Go.Proofs.Ytmnafjgkhhdidaa
open Go.Ev
/-- What the bytes from place i on say, u being what those ahead said. -/
def gv : List Int → Nat → Int → Option (Int × Nat)
  | [], _, _ => none
  | c :: r, i, u => if i = 10 then none else if 128 ≤ c then gv r (i + 1) (u + c % 128 * 128 ^ i) else if (i = 9 ∧ 1 < c) ∨ (0 < i ∧ c = 0) then none else some (u + c * 128 ^ i, i + 1)
theorem gv_ten (l : List Int) (u : Int) : gv l 10 u = none := by
  cases l <;> simp [gv]
def okB (b : List Int) : Prop := ∀ c ∈ b, byte c
theorem or64 (u x i : Nat) (hu : u < 2 ^ (7 * i)) (h : x * 2 ^ (7 * i) < 18446744073709551616) (hi : 7 * i ≤ 63) : bOr .u64 (u : Int) ((x * 2 ^ (7 * i) : Nat) : Int) = ((u + x * 2 ^ (7 * i) : Nat) : Int) := by
  have hu2 : u < 2 ^ 64 := Nat.lt_of_lt_of_le hu (Nat.pow_le_pow_right (by omega) (by omega))
  have e : (BitVec.ofInt IntKind.u64.bits (u : Int) ||| BitVec.ofInt IntKind.u64.bits ((x * 2 ^ (7 * i) : Nat) : Int)).toNat = u ||| x * 2 ^ (7 * i) := or_nat 64 u (x * 2 ^ (7 * i)) hu2 (by simpa using h)
  have h2 := or_add x u (7 * i) hu
  have h3 : x * 2 ^ (7 * i) + u < 2 ^ 64 := by
    rw [← h2]
    exact Nat.or_lt_two_pow (by simpa using h) hu2
  unfold bOr
  rw [e, Nat.or_comm, h2, wrap_u64 (by omega) (by simp at h3; omega)]
  omega
theorem pow128 (i : Nat) : (128 : Int) ^ i = ((2 ^ (7 * i) : Nat) : Int) := by
  rw [Nat.pow_mul]
  simp
/-- What is told. -/
def getV : Option (Int × Nat) → AV
  | some (u, n) => .tup [.int .u64 u, .int .i64 n, .bool true]
  | none => .tup [.int .u64 0, .int .i64 0, .bool false]
theorem get_ev (b : List Int) (hb : okB b) (hl : b.length ≤ 9223372036854775807) : cvF tab 65 [rB b] = some (getV (gv b 0 0)) := by
  refine cvFA_R (mf := Mf.f65) rfl rfl (by kernel_rfl) ?_
  simp only [Mf.f65]
  obtain ⟨m, hm⟩ : ∃ m, min b.length 10 = m := ⟨_, rfl⟩
  have hmI : min (b.length : Int) 10 = (m : Int) := by omega
  have hm0 : (0 : Int) ≤ (m : Int) := by omega
  have hmb : (m : Int) ≤ (b.length : Int) := by omega
  have hm10 : m ≤ 10 := by omega
  simp [beqI, bneI, mm_min2, mm_max2, mm_min3, mm_max3, startE, lkE, lkX, lkE_rest, sx, substE, opVA, objs0, List.replicate, XA_seq, XA_region, XOA_go, goE_someA, opV, ev, putA, layAll, XOA_nil, XA_skip_seq, XA_skip_nil, XOA_gd, goG_tA, goG_uA, binV, bi_add, bi_sub, bi_mul, bi_quo, bi_rem, bi_eql, bi_neq, bi_lss, bi_leq, bi_gtr, bi_geq, bi_shl, bi_shr, bi_and, bi_or, bi_xor, unV, XA_ret_nil, XA_ret_cons, endFA_r, endFA_n, endTA_r, endTA_n, endRA_r, endRA_n, endEA_r, endEA_n, List.take, fltR, resultsA, resAs, resA, XA_block, XA_cond, pickX_t, pickX_f, pickX_b, XA_skip_blk, XA_skip_lp, XA_exit_seq, XA_exit_lp, XA_exit_blk, XA_exit_nil, load1, Ev.loadCells, objCells, bodyCells, setCells, AV.flat, AV.flat1, backR, backV, backCell, mapO, AV.cells, AV.atom, AV.tree, fillV, repeatL, treeCell, freezeAll, eqCells, callV_T, callV_F, passN, passV, passCell, srcCells, sliceBounds, hiB, loB, thenQ_nA, thenQ_xA, thenQ_rA, runK_nA, runK_xA, runK_rA, wrap_i64, wrap_u64, wrap_u32, wrap_u8, wrap_u16, rB, hmI, hm0, hmb]
  refine XA_loop (α := Nat × Int) (fun x => ⟨[(5, .int .u64 x.2), (12, .ro m ((b.map (.int .u8)).take m)), (13, .int .i64 m), (14, .int .i64 x.1)], []⟩)
    (fun x => x.1 ≤ m ∧ gv (b.drop x.1) x.1 x.2 = gv b 0 0 ∧ (x.1 ≤ 9 → 0 ≤ x.2 ∧ x.2 < 128 ^ x.1)) (fun x => m - x.1) (0, 0) (by simp [AV.atom, normA, lkE, fixObjs, fixBody, fixV, fixCell]) ⟨Nat.zero_le _, rfl, by simp⟩ ?_
  rintro ⟨i, u⟩ ⟨hi, hJ, hr⟩
  simp only at hi hJ hr
  by_cases ci : i < m
  · have ci' : (i : Int) < (m : Int) := by omega
    have hib : i < b.length := by omega
    have hi9 : i ≤ 9 := by omega
    have hi10 : ¬ i = 10 := by omega
    obtain ⟨hu0, hu1⟩ := hr hi9
    have hc := hb _ (List.getElem_mem hib)
    unfold byte at hc
    have hidx : (List.drop i ((b.map (AV.int .u8)).take m))[0]? = some (.int .u8 (b[i])) := by
      rw [List.getElem?_drop, Nat.add_zero, List.getElem?_take, if_pos ci, List.getElem?_map, List.getElem?_eq_getElem hib]
      rfl
    rw [List.drop_eq_getElem_cons hib] at hJ
    generalize b[i] = c at *
    have o := bin_and_u8 c hc.1 hc.2
    have w1 : IntKind.u64.wrap (c % 128) = c % 128 := wrap_u64 (by omega) (by omega)
    have w2 : IntKind.i64.wrap (7 * (i : Int)) = 7 * (i : Int) := wrap_i64 (by omega) (by omega)
    have w3 : ¬ 7 * (i : Int) < 0 := by omega
    have w4 : min (7 * (i : Int)).toNat 64 = 7 * i := by omega
    have ws : IntKind.i64.wrap ((i : Int) + 1) = (i : Int) + 1 := wrap_i64 (by omega) (by omega)
    obtain ⟨S, hS⟩ : ∃ S, IntKind.u64.wrap (c % 128 * 2 ^ (7 * i)) = S := ⟨_, rfl⟩
    obtain ⟨V, hV⟩ : ∃ V, bOr .u64 u S = V := ⟨_, rfl⟩
    have hgood : (i ≤ 8 ∨ c % 128 ≤ 1) → V = u + c % 128 * 128 ^ i := by
      intro h
      obtain ⟨un, rfl⟩ := nat_of hu0
      obtain ⟨cn, hcn⟩ := nat_of (show 0 ≤ c % 128 by omega)
      rw [hcn] at hS h ⊢
      have hp : (2 : Int) ^ (7 * i) = ((2 ^ (7 * i) : Nat) : Int) := by simp
      have hlt : cn * 2 ^ (7 * i) < 18446744073709551616 := by
        rcases h with h | h
        · have h1 : 2 ^ (7 * i) ≤ 2 ^ 56 := Nat.pow_le_pow_right (by omega) (by omega)
          have h2 : cn ≤ 127 := by omega
          have h3 := Nat.mul_le_mul h2 h1
          simp at h3; omega
        · have h1 : 2 ^ (7 * i) ≤ 2 ^ 63 := Nat.pow_le_pow_right (by omega) (by omega)
          have h2 : cn ≤ 1 := by omega
          have h3 := Nat.mul_le_mul h2 h1
          simp at h3; omega
      rw [hp, ← Int.natCast_mul, wrap_u64 (by omega) (by omega)] at hS
      rw [pow128] at hu1 ⊢
      rw [← hV, ← hS, or64 un cn i (by omega) hlt (by omega)]
      simp
    by_cases ch : 128 ≤ c
    · rw [show gv (c :: b.drop (i + 1)) i u = gv (b.drop (i + 1)) (i + 1) (u + c % 128 * 128 ^ i) from by simp [gv, hi10, ch]] at hJ
      simp [beqI, bneI, mm_min2, mm_max2, mm_min3, mm_max3, startE, lkE, lkX, lkE_rest, sx, substE, opVA, objs0, List.replicate, XA_seq, XA_region, XOA_go, goE_someA, opV, ev, putA, layAll, XOA_nil, XA_skip_seq, XA_skip_nil, XOA_gd, goG_tA, goG_uA, binV, bi_add, bi_sub, bi_mul, bi_quo, bi_rem, bi_eql, bi_neq, bi_lss, bi_leq, bi_gtr, bi_geq, bi_shl, bi_shr, bi_and, bi_or, bi_xor, unV, XA_ret_nil, XA_ret_cons, endFA_r, endFA_n, endTA_r, endTA_n, endRA_r, endRA_n, endEA_r, endEA_n, List.take, fltR, resultsA, resAs, resA, XA_block, XA_cond, pickX_t, pickX_f, pickX_b, XA_skip_blk, XA_skip_lp, XA_exit_seq, XA_exit_lp, XA_exit_blk, XA_exit_nil, load1, Ev.loadCells, objCells, bodyCells, setCells, AV.flat, AV.flat1, backR, backV, backCell, mapO, AV.cells, AV.atom, AV.tree, fillV, repeatL, treeCell, freezeAll, eqCells, callV_T, callV_F, passN, passV, passCell, srcCells, sliceBounds, hiB, loB, thenQ_nA, thenQ_xA, thenQ_rA, runK_nA, runK_xA, runK_rA, wrap_i64, wrap_u64, wrap_u32, wrap_u8, wrap_u16, AV.atom, normA, lkE, fixObjs, fixBody, fixV, fixCell, ci', hidx, o, w1, w2, w3, w4, hS, hV, ch, ws, IntKind.bits]
      refine ⟨i + 1, V, ?_⟩
      refine ⟨⟨rfl, by simp⟩, ⟨by omega, ?_, ?_⟩, by omega⟩
      · by_cases h9 : i = 9
        · subst h9
          rw [gv_ten]
          rw [gv_ten] at hJ
          exact hJ
        · rw [hgood (.inl (by omega))]
          exact hJ
      · intro h9
        have e := hgood (.inl (by omega))
        have hq : (128 : Int) ^ (i + 1) = 128 ^ i * 128 := Int.pow_succ ..
        have hq2 : c % 128 * 128 ^ i ≤ 127 * 128 ^ i := Int.mul_le_mul_of_nonneg_right (by omega) (Int.le_of_lt (Int.lt_of_le_of_lt hu0 hu1))
        have hq3 : 0 ≤ c % 128 * 128 ^ i := Int.mul_nonneg (by omega) (Int.le_of_lt (Int.lt_of_le_of_lt hu0 hu1))
        rw [e, hq]
        omega
    · have hcm : c % 128 = c := by omega
      by_cases cb : (i = 9 ∧ 1 < c) ∨ (0 < i ∧ c = 0)
      · rw [show gv (c :: b.drop (i + 1)) i u = none from by simp [gv, hi10, ch, cb]] at hJ
        rw [← hJ]
        rcases cb with ⟨h9, h1⟩ | ⟨h0, hz⟩
        · have h9' : decide ((i : Int) = 9) = true := by simp; omega
          simp [beqI, bneI, mm_min2, mm_max2, mm_min3, mm_max3, startE, lkE, lkX, lkE_rest, sx, substE, opVA, objs0, List.replicate, XA_seq, XA_region, XOA_go, goE_someA, opV, ev, putA, layAll, XOA_nil, XA_skip_seq, XA_skip_nil, XOA_gd, goG_tA, goG_uA, binV, bi_add, bi_sub, bi_mul, bi_quo, bi_rem, bi_eql, bi_neq, bi_lss, bi_leq, bi_gtr, bi_geq, bi_shl, bi_shr, bi_and, bi_or, bi_xor, unV, XA_ret_nil, XA_ret_cons, endFA_r, endFA_n, endTA_r, endTA_n, endRA_r, endRA_n, endEA_r, endEA_n, List.take, fltR, resultsA, resAs, resA, XA_block, XA_cond, pickX_t, pickX_f, pickX_b, XA_skip_blk, XA_skip_lp, XA_exit_seq, XA_exit_lp, XA_exit_blk, XA_exit_nil, load1, Ev.loadCells, objCells, bodyCells, setCells, AV.flat, AV.flat1, backR, backV, backCell, mapO, AV.cells, AV.atom, AV.tree, fillV, repeatL, treeCell, freezeAll, eqCells, callV_T, callV_F, passN, passV, passCell, srcCells, sliceBounds, hiB, loB, thenQ_nA, thenQ_xA, thenQ_rA, runK_nA, runK_xA, runK_rA, wrap_i64, wrap_u64, wrap_u32, wrap_u8, wrap_u16, AV.atom, normA, lkE, fixObjs, fixBody, fixV, fixCell, ci', hidx, o, w1, w2, w3, w4, hS, hV, ch, h1, h9', IntKind.bits, getV]
        · have h0' : (0 : Int) < (i : Int) := by omega
          by_cases h9 : i = 9
          · have h9' : decide ((i : Int) = 9) = true := by simp; omega
            subst hz
            simp [beqI, bneI, mm_min2, mm_max2, mm_min3, mm_max3, startE, lkE, lkX, lkE_rest, sx, substE, opVA, objs0, List.replicate, XA_seq, XA_region, XOA_go, goE_someA, opV, ev, putA, layAll, XOA_nil, XA_skip_seq, XA_skip_nil, XOA_gd, goG_tA, goG_uA, binV, bi_add, bi_sub, bi_mul, bi_quo, bi_rem, bi_eql, bi_neq, bi_lss, bi_leq, bi_gtr, bi_geq, bi_shl, bi_shr, bi_and, bi_or, bi_xor, unV, XA_ret_nil, XA_ret_cons, endFA_r, endFA_n, endTA_r, endTA_n, endRA_r, endRA_n, endEA_r, endEA_n, List.take, fltR, resultsA, resAs, resA, XA_block, XA_cond, pickX_t, pickX_f, pickX_b, XA_skip_blk, XA_skip_lp, XA_exit_seq, XA_exit_lp, XA_exit_blk, XA_exit_nil, load1, Ev.loadCells, objCells, bodyCells, setCells, AV.flat, AV.flat1, backR, backV, backCell, mapO, AV.cells, AV.atom, AV.tree, fillV, repeatL, treeCell, freezeAll, eqCells, callV_T, callV_F, passN, passV, passCell, srcCells, sliceBounds, hiB, loB, thenQ_nA, thenQ_xA, thenQ_rA, runK_nA, runK_xA, runK_rA, wrap_i64, wrap_u64, wrap_u32, wrap_u8, wrap_u16, AV.atom, normA, lkE, fixObjs, fixBody, fixV, fixCell, ci', hidx, o, w1, w2, w3, w4, hS, hV, h9', h0', h0, IntKind.bits, getV]
          · have h9' : ¬ (i : Int) = 9 := by omega
            subst hz
            simp [beqI, bneI, mm_min2, mm_max2, mm_min3, mm_max3, startE, lkE, lkX, lkE_rest, sx, substE, opVA, objs0, List.replicate, XA_seq, XA_region, XOA_go, goE_someA, opV, ev, putA, layAll, XOA_nil, XA_skip_seq, XA_skip_nil, XOA_gd, goG_tA, goG_uA, binV, bi_add, bi_sub, bi_mul, bi_quo, bi_rem, bi_eql, bi_neq, bi_lss, bi_leq, bi_gtr, bi_geq, bi_shl, bi_shr, bi_and, bi_or, bi_xor, unV, XA_ret_nil, XA_ret_cons, endFA_r, endFA_n, endTA_r, endTA_n, endRA_r, endRA_n, endEA_r, endEA_n, List.take, fltR, resultsA, resAs, resA, XA_block, XA_cond, pickX_t, pickX_f, pickX_b, XA_skip_blk, XA_skip_lp, XA_exit_seq, XA_exit_lp, XA_exit_blk, XA_exit_nil, load1, Ev.loadCells, objCells, bodyCells, setCells, AV.flat, AV.flat1, backR, backV, backCell, mapO, AV.cells, AV.atom, AV.tree, fillV, repeatL, treeCell, freezeAll, eqCells, callV_T, callV_F, passN, passV, passCell, srcCells, sliceBounds, hiB, loB, thenQ_nA, thenQ_xA, thenQ_rA, runK_nA, runK_xA, runK_rA, wrap_i64, wrap_u64, wrap_u32, wrap_u8, wrap_u16, AV.atom, normA, lkE, fixObjs, fixBody, fixV, fixCell, ci', hidx, o, w1, w2, w3, w4, hS, hV, h9', h0', h0, IntKind.bits, getV]
      · rw [show gv (c :: b.drop (i + 1)) i u = some (u + c * 128 ^ i, i + 1) from by simp [gv, hi10, ch, cb]] at hJ
        rw [← hJ]
        have hVe : V = u + c * 128 ^ i := by
          rw [hgood (by omega), hcm]
        by_cases h9 : i = 9
        · have hc1 : ¬ 1 < c := fun h => cb (.inl ⟨h9, h⟩)
          have hc0 : ¬ c = 0 := fun h => cb (.inr ⟨by omega, h⟩)
          have h9I : decide ((i : Int) = 9) = true := by simp; omega
          have h0' : (0 : Int) < (i : Int) := by omega
          have h0 : 0 < i := by omega
          simp [beqI, bneI, mm_min2, mm_max2, mm_min3, mm_max3, startE, lkE, lkX, lkE_rest, sx, substE, opVA, objs0, List.replicate, XA_seq, XA_region, XOA_go, goE_someA, opV, ev, putA, layAll, XOA_nil, XA_skip_seq, XA_skip_nil, XOA_gd, goG_tA, goG_uA, binV, bi_add, bi_sub, bi_mul, bi_quo, bi_rem, bi_eql, bi_neq, bi_lss, bi_leq, bi_gtr, bi_geq, bi_shl, bi_shr, bi_and, bi_or, bi_xor, unV, XA_ret_nil, XA_ret_cons, endFA_r, endFA_n, endTA_r, endTA_n, endRA_r, endRA_n, endEA_r, endEA_n, List.take, fltR, resultsA, resAs, resA, XA_block, XA_cond, pickX_t, pickX_f, pickX_b, XA_skip_blk, XA_skip_lp, XA_exit_seq, XA_exit_lp, XA_exit_blk, XA_exit_nil, load1, Ev.loadCells, objCells, bodyCells, setCells, AV.flat, AV.flat1, backR, backV, backCell, mapO, AV.cells, AV.atom, AV.tree, fillV, repeatL, treeCell, freezeAll, eqCells, callV_T, callV_F, passN, passV, passCell, srcCells, sliceBounds, hiB, loB, thenQ_nA, thenQ_xA, thenQ_rA, runK_nA, runK_xA, runK_rA, wrap_i64, wrap_u64, wrap_u32, wrap_u8, wrap_u16, AV.atom, normA, lkE, fixObjs, fixBody, fixV, fixCell, ci', hidx, o, w1, w2, w3, w4, hS, hV, ch, hc1, hc0, h9I, h0', h0, ws, IntKind.bits, getV, hVe]
        · have h9' : ¬ (i : Int) = 9 := by omega
          by_cases h0 : 0 < i
          · have h0' : (0 : Int) < (i : Int) := by omega
            have hc0 : ¬ c = 0 := fun h => cb (.inr ⟨h0, h⟩)
            simp [beqI, bneI, mm_min2, mm_max2, mm_min3, mm_max3, startE, lkE, lkX, lkE_rest, sx, substE, opVA, objs0, List.replicate, XA_seq, XA_region, XOA_go, goE_someA, opV, ev, putA, layAll, XOA_nil, XA_skip_seq, XA_skip_nil, XOA_gd, goG_tA, goG_uA, binV, bi_add, bi_sub, bi_mul, bi_quo, bi_rem, bi_eql, bi_neq, bi_lss, bi_leq, bi_gtr, bi_geq, bi_shl, bi_shr, bi_and, bi_or, bi_xor, unV, XA_ret_nil, XA_ret_cons, endFA_r, endFA_n, endTA_r, endTA_n, endRA_r, endRA_n, endEA_r, endEA_n, List.take, fltR, resultsA, resAs, resA, XA_block, XA_cond, pickX_t, pickX_f, pickX_b, XA_skip_blk, XA_skip_lp, XA_exit_seq, XA_exit_lp, XA_exit_blk, XA_exit_nil, load1, Ev.loadCells, objCells, bodyCells, setCells, AV.flat, AV.flat1, backR, backV, backCell, mapO, AV.cells, AV.atom, AV.tree, fillV, repeatL, treeCell, freezeAll, eqCells, callV_T, callV_F, passN, passV, passCell, srcCells, sliceBounds, hiB, loB, thenQ_nA, thenQ_xA, thenQ_rA, runK_nA, runK_xA, runK_rA, wrap_i64, wrap_u64, wrap_u32, wrap_u8, wrap_u16, AV.atom, normA, lkE, fixObjs, fixBody, fixV, fixCell, ci', hidx, o, w1, w2, w3, w4, hS, hV, ch, hc0, h9', h0', h0, ws, IntKind.bits, getV, hVe]
          · have h0' : ¬ (0 : Int) < (i : Int) := by omega
            simp [beqI, bneI, mm_min2, mm_max2, mm_min3, mm_max3, startE, lkE, lkX, lkE_rest, sx, substE, opVA, objs0, List.replicate, XA_seq, XA_region, XOA_go, goE_someA, opV, ev, putA, layAll, XOA_nil, XA_skip_seq, XA_skip_nil, XOA_gd, goG_tA, goG_uA, binV, bi_add, bi_sub, bi_mul, bi_quo, bi_rem, bi_eql, bi_neq, bi_lss, bi_leq, bi_gtr, bi_geq, bi_shl, bi_shr, bi_and, bi_or, bi_xor, unV, XA_ret_nil, XA_ret_cons, endFA_r, endFA_n, endTA_r, endTA_n, endRA_r, endRA_n, endEA_r, endEA_n, List.take, fltR, resultsA, resAs, resA, XA_block, XA_cond, pickX_t, pickX_f, pickX_b, XA_skip_blk, XA_skip_lp, XA_exit_seq, XA_exit_lp, XA_exit_blk, XA_exit_nil, load1, Ev.loadCells, objCells, bodyCells, setCells, AV.flat, AV.flat1, backR, backV, backCell, mapO, AV.cells, AV.atom, AV.tree, fillV, repeatL, treeCell, freezeAll, eqCells, callV_T, callV_F, passN, passV, passCell, srcCells, sliceBounds, hiB, loB, thenQ_nA, thenQ_xA, thenQ_rA, runK_nA, runK_xA, runK_rA, wrap_i64, wrap_u64, wrap_u32, wrap_u8, wrap_u16, AV.atom, normA, lkE, fixObjs, fixBody, fixV, fixCell, ci', hidx, o, w1, w2, w3, w4, hS, hV, ch, h9', h0', h0, ws, IntKind.bits, getV, hVe]
  · have hi2 : i = m := by omega
    have ci' : ¬ (i : Int) < (m : Int) := by omega
    have hn : gv b 0 0 = none := by
      rw [← hJ]
      by_cases h10 : i = 10
      · rw [h10, gv_ten]
      · rw [List.drop_eq_nil_of_le (by omega)]
        rfl
    rw [hn]
    simp [beqI, bneI, mm_min2, mm_max2, mm_min3, mm_max3, startE, lkE, lkX, lkE_rest, sx, substE, opVA, objs0, List.replicate, XA_seq, XA_region, XOA_go, goE_someA, opV, ev, putA, layAll, XOA_nil, XA_skip_seq, XA_skip_nil, XOA_gd, goG_tA, goG_uA, binV, bi_add, bi_sub, bi_mul, bi_quo, bi_rem, bi_eql, bi_neq, bi_lss, bi_leq, bi_gtr, bi_geq, bi_shl, bi_shr, bi_and, bi_or, bi_xor, unV, XA_ret_nil, XA_ret_cons, endFA_r, endFA_n, endTA_r, endTA_n, endRA_r, endRA_n, endEA_r, endEA_n, List.take, fltR, resultsA, resAs, resA, XA_block, XA_cond, pickX_t, pickX_f, pickX_b, XA_skip_blk, XA_skip_lp, XA_exit_seq, XA_exit_lp, XA_exit_blk, XA_exit_nil, load1, Ev.loadCells, objCells, bodyCells, setCells, AV.flat, AV.flat1, backR, backV, backCell, mapO, AV.cells, AV.atom, AV.tree, fillV, repeatL, treeCell, freezeAll, eqCells, callV_T, callV_F, passN, passV, passCell, srcCells, sliceBounds, hiB, loB, thenQ_nA, thenQ_xA, thenQ_rA, runK_nA, runK_xA, runK_rA, wrap_i64, wrap_u64, wrap_u32, wrap_u8, wrap_u16, AV.atom, normA, lkE, fixObjs, fixBody, fixV, fixCell, ci', getV]
end Go.Proofs.Ytmnafjgkhhdidaa
