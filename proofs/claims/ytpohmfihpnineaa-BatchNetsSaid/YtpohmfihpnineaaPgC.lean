/- Plain texts put together: SchA SchB CodeB CodeC CodeD SchC SchD CodeF. -/
import Derived.Test.YtpohmfihpnineaaPgB
import Derived.Test.YtpohmfihpnineaaPgA
section
set_option linter.unusedSimpArgs false
set_option linter.unusedVariables false
set_option maxHeartbeats 4000000
set_option maxRecDepth 100000
namespace Go.Proofs.Ytpohmfihpnineaa
open Go.Ev
deriving instance DecidableEq for Dm
end Go.Proofs.Ytpohmfihpnineaa
end
section
set_option linter.unusedSimpArgs false
set_option linter.unusedVariables false
set_option maxHeartbeats 4000000
set_option maxRecDepth 100000
namespace Go.Proofs.Ytpohmfihpnineaa
open Go.Ev
end Go.Proofs.Ytpohmfihpnineaa
end
section
set_option linter.unusedSimpArgs false
set_option linter.unusedVariables false
set_option maxHeartbeats 4000000
set_option maxRecDepth 100000
namespace Go.Proofs.Ytpohmfihpnineaa
open Go.Ev
def rB (l : List Int) : AV := .ro l.length (l.map (.int .u8))
def digN (u : Nat) : List Int := if u < 128 then [(u : Int)] else ((u % 128 + 128 : Nat) : Int) :: digN (u / 128)
  termination_by u
  decreasing_by omega
theorem digN_low {u : Nat} (h : u < 128) : digN u = [(u : Int)] := by
  rw [digN, if_pos h]
theorem digN_high {u : Nat} (h : ¬ u < 128) : digN u = ((u % 128 + 128 : Nat) : Int) :: digN (u / 128) := by
  rw [digN, if_neg h]
theorem digN_len : ∀ (n u : Nat), u < 128 ^ (n + 1) → (digN u).length ≤ n + 1
  | 0, u, h => by rw [digN_low (by simpa using h)]; simp
  | n + 1, u, h => by
    by_cases c : u < 128
    · rw [digN_low c]; simp
    · rw [digN_high c, List.length_cons]
      have := digN_len n (u / 128) (by rw [Nat.div_lt_iff_lt_mul (by omega), ← Nat.pow_succ]; exact h)
      omega
theorem digN_ten {u : Nat} (h : u < 18446744073709551616) : (digN u).length ≤ 10 := digN_len 9 u (by simp; omega)
theorem digN_pos (u : Nat) : 0 < (digN u).length := by
  by_cases c : u < 128
  · rw [digN_low c]; simp
  · rw [digN_high c]; simp
theorem put_ev (b : List Int) (u : Nat) (hb : b.length ≤ 100000000) (hu : u < 18446744073709551616) : cvT tab 33 [rB b, .int .u64 u] = some (rB (b ++ digN u)) := by
  refine cvTA_R (mf := Mf.f33) rfl rfl (by kernel_rfl) ?_
  simp only [Mf.f33]
  have hcl := callV_clone (M := tab) (H := [⟨0, .none⟩]) (f := 53) (a := .ro b.length (b.map (.int .u8))) (fzs := []) (t := 0) (bytes := 1) (sz := 1) (n := b.length) (cs := b.map (.int .u8)) ⟨0, .none⟩ [] rfl
    (fun n cs h1 h2 h3 => by
      simp only [tab]
      rw [cloneY_ro]
      unfold cloneX
      simp [cloneIds, List.lookup]
      simp at h1 h2
      exact ⟨h1, h2, h3⟩) rfl (by simp) (by omega) (by omega) rfl rfl (by decide)
  have hlen0 := digN_ten hu
  simp [beqI, bneI, mm_min2, mm_max2, mm_min3, mm_max3, startE, lkE, lkX, lkE_rest, sx, substE, opVA, objs0, List.replicate, XA_seq, XA_region, XOA_go, goE_someA, opV, ev, putA, layAll, XOA_nil, XA_skip_seq, XA_skip_nil, XOA_gd, goG_tA, goG_uA, binV, bi_add, bi_sub, bi_mul, bi_quo, bi_rem, bi_eql, bi_neq, bi_lss, bi_leq, bi_gtr, bi_geq, bi_shl, bi_shr, bi_and, bi_or, bi_xor, unV, XA_ret_nil, XA_ret_cons, endFA_r, endFA_n, endTA_r, endTA_n, endRA_r, endRA_n, endEA_r, endEA_n, List.take, fltR, resultsA, resAs, resA, XA_block, XA_cond, pickX_t, pickX_f, pickX_b, XA_skip_blk, XA_skip_lp, XA_exit_seq, XA_exit_lp, XA_exit_blk, XA_exit_nil, load1, Ev.loadCells, objCells, bodyCells, setCells, AV.flat, AV.flat1, backR, backV, backCell, mapO, AV.cells, AV.atom, AV.tree, fillV, repeatL, treeCell, freezeAll, eqCells, callV_T, callV_F, passN, passV, passCell, srcCells, sliceBounds, hiB, loB, thenQ_nA, thenQ_xA, thenQ_rA, runK_nA, runK_xA, runK_rA, wrap_i64, wrap_u64, wrap_u32, wrap_u8, wrap_u16, rB, hcl]
  refine XA_loop (α := List Int × Nat) (fun x => ⟨[(1, .int .u64 x.2), (5, .own 0 0 0 x.1.length 1)], [⟨0, .row true 1 (x.1.map (.int .u8))⟩]⟩)
    (fun x => x.1 ++ digN x.2 = b ++ digN u ∧ x.2 < 18446744073709551616) (fun x => x.2) (b, u) (by simp [AV.atom, normA, lkE, fixObjs, fixBody, fixV, fixCell]) ⟨rfl, hu⟩ ?_
  rintro ⟨dn, v⟩ ⟨hJ, hv⟩
  simp only at hJ hv
  have hlen : dn.length + (digN v).length = b.length + (digN u).length := by
    have := congrArg List.length hJ
    simpa using this
  have q1 : dn.length + 1 ≤ 140737488355328 := by omega
  have q2 : dn.length + 1 < 4611686018427387904 := by omega
  by_cases c : v < 128
  · have c' : ¬ (128 : Int) ≤ (v : Int) := by omega
    have w : (v : Int) % 256 = v := by omega
    rw [digN_low c] at hJ
    have f1 := congrArg List.length hJ
    have f2 := congrArg (List.map (AV.int .u8)) hJ
    simp at f1 f2
    simp [beqI, bneI, mm_min2, mm_max2, mm_min3, mm_max3, startE, lkE, lkX, lkE_rest, sx, substE, opVA, objs0, List.replicate, XA_seq, XA_region, XOA_go, goE_someA, opV, ev, putA, layAll, XOA_nil, XA_skip_seq, XA_skip_nil, XOA_gd, goG_tA, goG_uA, binV, bi_add, bi_sub, bi_mul, bi_quo, bi_rem, bi_eql, bi_neq, bi_lss, bi_leq, bi_gtr, bi_geq, bi_shl, bi_shr, bi_and, bi_or, bi_xor, unV, XA_ret_nil, XA_ret_cons, endFA_r, endFA_n, endTA_r, endTA_n, endRA_r, endRA_n, endEA_r, endEA_n, List.take, fltR, resultsA, resAs, resA, XA_block, XA_cond, pickX_t, pickX_f, pickX_b, XA_skip_blk, XA_skip_lp, XA_exit_seq, XA_exit_lp, XA_exit_blk, XA_exit_nil, load1, Ev.loadCells, objCells, bodyCells, setCells, AV.flat, AV.flat1, backR, backV, backCell, mapO, AV.cells, AV.atom, AV.tree, fillV, repeatL, treeCell, freezeAll, eqCells, callV_T, callV_F, passN, passV, passCell, srcCells, sliceBounds, hiB, loB, thenQ_nA, thenQ_xA, thenQ_rA, runK_nA, runK_xA, runK_rA, wrap_i64, wrap_u64, wrap_u32, wrap_u8, wrap_u16, AV.atom, normA, lkE, fixObjs, fixBody, fixV, fixCell, c', wrap8, w, q1, q2, List.take_of_length_le]
    exact ⟨f1, f2⟩
  · have c' : (128 : Int) ≤ (v : Int) := by omega
    have o := bin_or_u8 ((v : Int) % 256) (by omega) (by omega)
    have o2 : (v : Int) % 256 % 128 + 128 = ((v % 128 + 128 : Nat) : Int) := by omega
    rw [o2] at o
    have s : (v : Int).fdiv 128 = ((v / 128 : Nat) : Int) := by
      have := fdiv_eq (v : Int) 128
      rw [show ((128 : Nat) : Int) = 128 from rfl] at this
      rw [this]; omega
    rw [digN_high c] at hJ
    simp [beqI, bneI, mm_min2, mm_max2, mm_min3, mm_max3, startE, lkE, lkX, lkE_rest, sx, substE, opVA, objs0, List.replicate, XA_seq, XA_region, XOA_go, goE_someA, opV, ev, putA, layAll, XOA_nil, XA_skip_seq, XA_skip_nil, XOA_gd, goG_tA, goG_uA, binV, bi_add, bi_sub, bi_mul, bi_quo, bi_rem, bi_eql, bi_neq, bi_lss, bi_leq, bi_gtr, bi_geq, bi_shl, bi_shr, bi_and, bi_or, bi_xor, unV, XA_ret_nil, XA_ret_cons, endFA_r, endFA_n, endTA_r, endTA_n, endRA_r, endRA_n, endEA_r, endEA_n, List.take, fltR, resultsA, resAs, resA, XA_block, XA_cond, pickX_t, pickX_f, pickX_b, XA_skip_blk, XA_skip_lp, XA_exit_seq, XA_exit_lp, XA_exit_blk, XA_exit_nil, load1, Ev.loadCells, objCells, bodyCells, setCells, AV.flat, AV.flat1, backR, backV, backCell, mapO, AV.cells, AV.atom, AV.tree, fillV, repeatL, treeCell, freezeAll, eqCells, callV_T, callV_F, passN, passV, passCell, srcCells, sliceBounds, hiB, loB, thenQ_nA, thenQ_xA, thenQ_rA, runK_nA, runK_xA, runK_rA, wrap_i64, wrap_u64, wrap_u32, wrap_u8, wrap_u16, AV.atom, normA, lkE, fixObjs, fixBody, fixV, fixCell, c', wrap8, o, q1, q2, s, IntKind.bits]
    refine ⟨dn ++ [((v % 128 + 128 : Nat) : Int)], v / 128, ?_⟩
    simp
    refine ⟨⟨by simpa using hJ, by omega⟩, by omega⟩
end Go.Proofs.Ytpohmfihpnineaa
end
section
set_option linter.unusedSimpArgs false
set_option linter.unusedVariables false
set_option maxHeartbeats 4000000
set_option maxRecDepth 100000
namespace Go.Proofs.Ytpohmfihpnineaa
open Go.Ev
def gv : List Int → Nat → Int → Option (Int × Nat)
  | [], _, _ => none
  | c :: r, i, u => if i = 10 then none else if 128 ≤ c then gv r (i + 1) (u + c % 128 * 128 ^ i) else if (i = 9 ∧ 1 < c) ∨ (0 < i ∧ c = 0) then none else some (u + c * 128 ^ i, i + 1)
theorem gv_ten (l : List Int) (u : Int) : gv l 10 u = none := by
  cases l <;> simp [gv]
def okB (b : List Int) : Prop := ∀ c ∈ b, byte c
theorem or64 (u x i : Nat) (hu : u < 2 ^ (7 * i)) (h : x * 2 ^ (7 * i) < 18446744073709551616) (hi : 7 * i ≤ 63) : bOr .u64 (u : Int) ((x * 2 ^ (7 * i) : Nat) : Int) = ((u + x * 2 ^ (7 * i) : Nat) : Int) := by
  have hu2 : u < 2 ^ 64 := Nat.lt_of_lt_of_le hu (Nat.pow_le_pow_right (by omega) (by omega))
  have e : (BitVec.ofInt IntKind.u64.bits (u : Int) ||| BitVec.ofInt IntKind.u64.bits ((x * 2 ^ (7 * i) : Nat) : Int)).toNat = u ||| x * 2 ^ (7 * i) := or_nat 64 u (x * 2 ^ (7 * i)) hu2 (by simpa using h)
  have h2 := or_add x u (7 * i) hu
  have h3 : x * 2 ^ (7 * i) + u < 2 ^ 64 := by
    rw [← h2]
    exact Nat.or_lt_two_pow (by simpa using h) hu2
  unfold bOr
  rw [e, Nat.or_comm, h2, wrap_u64 (by omega) (by simp at h3; omega)]
  omega
theorem pow128 (i : Nat) : (128 : Int) ^ i = ((2 ^ (7 * i) : Nat) : Int) := by
  rw [Nat.pow_mul]
  simp
def getV : Option (Int × Nat) → AV
  | some (u, n) => .tup [.int .u64 u, .int .i64 n, .bool true]
  | none => .tup [.int .u64 0, .int .i64 0, .bool false]
theorem get_ev (b : List Int) (hb : okB b) (hl : b.length ≤ 9223372036854775807) : cvF tab 37 [rB b] = some (getV (gv b 0 0)) := by
  refine cvFA_R (mf := Mf.f37) rfl rfl (by kernel_rfl) ?_
  simp only [Mf.f37]
  obtain ⟨m, hm⟩ : ∃ m, min b.length 10 = m := ⟨_, rfl⟩
  have hmI : min (b.length : Int) 10 = (m : Int) := by omega
  have hm0 : (0 : Int) ≤ (m : Int) := by omega
  have hmb : (m : Int) ≤ (b.length : Int) := by omega
  have hm10 : m ≤ 10 := by omega
  simp [beqI, bneI, mm_min2, mm_max2, mm_min3, mm_max3, startE, lkE, lkX, lkE_rest, sx, substE, opVA, objs0, List.replicate, XA_seq, XA_region, XOA_go, goE_someA, opV, ev, putA, layAll, XOA_nil, XA_skip_seq, XA_skip_nil, XOA_gd, goG_tA, goG_uA, binV, bi_add, bi_sub, bi_mul, bi_quo, bi_rem, bi_eql, bi_neq, bi_lss, bi_leq, bi_gtr, bi_geq, bi_shl, bi_shr, bi_and, bi_or, bi_xor, unV, XA_ret_nil, XA_ret_cons, endFA_r, endFA_n, endTA_r, endTA_n, endRA_r, endRA_n, endEA_r, endEA_n, List.take, fltR, resultsA, resAs, resA, XA_block, XA_cond, pickX_t, pickX_f, pickX_b, XA_skip_blk, XA_skip_lp, XA_exit_seq, XA_exit_lp, XA_exit_blk, XA_exit_nil, load1, Ev.loadCells, objCells, bodyCells, setCells, AV.flat, AV.flat1, backR, backV, backCell, mapO, AV.cells, AV.atom, AV.tree, fillV, repeatL, treeCell, freezeAll, eqCells, callV_T, callV_F, passN, passV, passCell, srcCells, sliceBounds, hiB, loB, thenQ_nA, thenQ_xA, thenQ_rA, runK_nA, runK_xA, runK_rA, wrap_i64, wrap_u64, wrap_u32, wrap_u8, wrap_u16, rB, hmI, hm0, hmb]
  refine XA_loop (α := Nat × Int) (fun x => ⟨[(5, .int .u64 x.2), (12, .ro m ((b.map (.int .u8)).take m)), (13, .int .i64 m), (14, .int .i64 x.1)], []⟩)
    (fun x => x.1 ≤ m ∧ gv (b.drop x.1) x.1 x.2 = gv b 0 0 ∧ (x.1 ≤ 9 → 0 ≤ x.2 ∧ x.2 < 128 ^ x.1)) (fun x => m - x.1) (0, 0) (by simp [AV.atom, normA, lkE, fixObjs, fixBody, fixV, fixCell]) ⟨Nat.zero_le _, rfl, by simp⟩ ?_
  rintro ⟨i, u⟩ ⟨hi, hJ, hr⟩
  simp only at hi hJ hr
  by_cases ci : i < m
  · have ci' : (i : Int) < (m : Int) := by omega
    have hib : i < b.length := by omega
    have hi9 : i ≤ 9 := by omega
    have hi10 : ¬ i = 10 := by omega
    obtain ⟨hu0, hu1⟩ := hr hi9
    have hc := hb _ (List.getElem_mem hib)
    unfold byte at hc
    have hidx : (List.drop i ((b.map (AV.int .u8)).take m))[0]? = some (.int .u8 (b[i])) := by
      rw [List.getElem?_drop, Nat.add_zero, List.getElem?_take, if_pos ci, List.getElem?_map, List.getElem?_eq_getElem hib]
      rfl
    rw [List.drop_eq_getElem_cons hib] at hJ
    generalize b[i] = c at *
    have o := bin_and_u8 c hc.1 hc.2
    have w1 : IntKind.u64.wrap (c % 128) = c % 128 := wrap_u64 (by omega) (by omega)
    have w2 : IntKind.i64.wrap (7 * (i : Int)) = 7 * (i : Int) := wrap_i64 (by omega) (by omega)
    have w3 : ¬ 7 * (i : Int) < 0 := by omega
    have w4 : min (7 * (i : Int)).toNat 64 = 7 * i := by omega
    have ws : IntKind.i64.wrap ((i : Int) + 1) = (i : Int) + 1 := wrap_i64 (by omega) (by omega)
    obtain ⟨S, hS⟩ : ∃ S, IntKind.u64.wrap (c % 128 * 2 ^ (7 * i)) = S := ⟨_, rfl⟩
    obtain ⟨V, hV⟩ : ∃ V, bOr .u64 u S = V := ⟨_, rfl⟩
    have hgood : (i ≤ 8 ∨ c % 128 ≤ 1) → V = u + c % 128 * 128 ^ i := by
      intro h
      obtain ⟨un, rfl⟩ := nat_of hu0
      obtain ⟨cn, hcn⟩ := nat_of (show 0 ≤ c % 128 by omega)
      rw [hcn] at hS h ⊢
      have hp : (2 : Int) ^ (7 * i) = ((2 ^ (7 * i) : Nat) : Int) := by simp
      have hlt : cn * 2 ^ (7 * i) < 18446744073709551616 := by
        rcases h with h | h
        · have h1 : 2 ^ (7 * i) ≤ 2 ^ 56 := Nat.pow_le_pow_right (by omega) (by omega)
          have h2 : cn ≤ 127 := by omega
          have h3 := Nat.mul_le_mul h2 h1
          simp at h3; omega
        · have h1 : 2 ^ (7 * i) ≤ 2 ^ 63 := Nat.pow_le_pow_right (by omega) (by omega)
          have h2 : cn ≤ 1 := by omega
          have h3 := Nat.mul_le_mul h2 h1
          simp at h3; omega
      rw [hp, ← Int.natCast_mul, wrap_u64 (by omega) (by omega)] at hS
      rw [pow128] at hu1 ⊢
      rw [← hV, ← hS, or64 un cn i (by omega) hlt (by omega)]
      simp
    by_cases ch : 128 ≤ c
    · rw [show gv (c :: b.drop (i + 1)) i u = gv (b.drop (i + 1)) (i + 1) (u + c % 128 * 128 ^ i) from by simp [gv, hi10, ch]] at hJ
      simp [beqI, bneI, mm_min2, mm_max2, mm_min3, mm_max3, startE, lkE, lkX, lkE_rest, sx, substE, opVA, objs0, List.replicate, XA_seq, XA_region, XOA_go, goE_someA, opV, ev, putA, layAll, XOA_nil, XA_skip_seq, XA_skip_nil, XOA_gd, goG_tA, goG_uA, binV, bi_add, bi_sub, bi_mul, bi_quo, bi_rem, bi_eql, bi_neq, bi_lss, bi_leq, bi_gtr, bi_geq, bi_shl, bi_shr, bi_and, bi_or, bi_xor, unV, XA_ret_nil, XA_ret_cons, endFA_r, endFA_n, endTA_r, endTA_n, endRA_r, endRA_n, endEA_r, endEA_n, List.take, fltR, resultsA, resAs, resA, XA_block, XA_cond, pickX_t, pickX_f, pickX_b, XA_skip_blk, XA_skip_lp, XA_exit_seq, XA_exit_lp, XA_exit_blk, XA_exit_nil, load1, Ev.loadCells, objCells, bodyCells, setCells, AV.flat, AV.flat1, backR, backV, backCell, mapO, AV.cells, AV.atom, AV.tree, fillV, repeatL, treeCell, freezeAll, eqCells, callV_T, callV_F, passN, passV, passCell, srcCells, sliceBounds, hiB, loB, thenQ_nA, thenQ_xA, thenQ_rA, runK_nA, runK_xA, runK_rA, wrap_i64, wrap_u64, wrap_u32, wrap_u8, wrap_u16, AV.atom, normA, lkE, fixObjs, fixBody, fixV, fixCell, ci', hidx, o, w1, w2, w3, w4, hS, hV, ch, ws, IntKind.bits]
      refine ⟨i + 1, V, ?_⟩
      refine ⟨⟨rfl, by simp⟩, ⟨by omega, ?_, ?_⟩, by omega⟩
      · by_cases h9 : i = 9
        · subst h9
          rw [gv_ten]
          rw [gv_ten] at hJ
          exact hJ
        · rw [hgood (.inl (by omega))]
          exact hJ
      · intro h9
        have e := hgood (.inl (by omega))
        have hq : (128 : Int) ^ (i + 1) = 128 ^ i * 128 := Int.pow_succ ..
        have hq2 : c % 128 * 128 ^ i ≤ 127 * 128 ^ i := Int.mul_le_mul_of_nonneg_right (by omega) (Int.le_of_lt (Int.lt_of_le_of_lt hu0 hu1))
        have hq3 : 0 ≤ c % 128 * 128 ^ i := Int.mul_nonneg (by omega) (Int.le_of_lt (Int.lt_of_le_of_lt hu0 hu1))
        rw [e, hq]
        omega
    · have hcm : c % 128 = c := by omega
      by_cases cb : (i = 9 ∧ 1 < c) ∨ (0 < i ∧ c = 0)
      · rw [show gv (c :: b.drop (i + 1)) i u = none from by simp [gv, hi10, ch, cb]] at hJ
        rw [← hJ]
        rcases cb with ⟨h9, h1⟩ | ⟨h0, hz⟩
        · have h9' : decide ((i : Int) = 9) = true := by simp; omega
          simp [beqI, bneI, mm_min2, mm_max2, mm_min3, mm_max3, startE, lkE, lkX, lkE_rest, sx, substE, opVA, objs0, List.replicate, XA_seq, XA_region, XOA_go, goE_someA, opV, ev, putA, layAll, XOA_nil, XA_skip_seq, XA_skip_nil, XOA_gd, goG_tA, goG_uA, binV, bi_add, bi_sub, bi_mul, bi_quo, bi_rem, bi_eql, bi_neq, bi_lss, bi_leq, bi_gtr, bi_geq, bi_shl, bi_shr, bi_and, bi_or, bi_xor, unV, XA_ret_nil, XA_ret_cons, endFA_r, endFA_n, endTA_r, endTA_n, endRA_r, endRA_n, endEA_r, endEA_n, List.take, fltR, resultsA, resAs, resA, XA_block, XA_cond, pickX_t, pickX_f, pickX_b, XA_skip_blk, XA_skip_lp, XA_exit_seq, XA_exit_lp, XA_exit_blk, XA_exit_nil, load1, Ev.loadCells, objCells, bodyCells, setCells, AV.flat, AV.flat1, backR, backV, backCell, mapO, AV.cells, AV.atom, AV.tree, fillV, repeatL, treeCell, freezeAll, eqCells, callV_T, callV_F, passN, passV, passCell, srcCells, sliceBounds, hiB, loB, thenQ_nA, thenQ_xA, thenQ_rA, runK_nA, runK_xA, runK_rA, wrap_i64, wrap_u64, wrap_u32, wrap_u8, wrap_u16, AV.atom, normA, lkE, fixObjs, fixBody, fixV, fixCell, ci', hidx, o, w1, w2, w3, w4, hS, hV, ch, h1, h9', IntKind.bits, getV]
        · have h0' : (0 : Int) < (i : Int) := by omega
          by_cases h9 : i = 9
          · have h9' : decide ((i : Int) = 9) = true := by simp; omega
            subst hz
            simp [beqI, bneI, mm_min2, mm_max2, mm_min3, mm_max3, startE, lkE, lkX, lkE_rest, sx, substE, opVA, objs0, List.replicate, XA_seq, XA_region, XOA_go, goE_someA, opV, ev, putA, layAll, XOA_nil, XA_skip_seq, XA_skip_nil, XOA_gd, goG_tA, goG_uA, binV, bi_add, bi_sub, bi_mul, bi_quo, bi_rem, bi_eql, bi_neq, bi_lss, bi_leq, bi_gtr, bi_geq, bi_shl, bi_shr, bi_and, bi_or, bi_xor, unV, XA_ret_nil, XA_ret_cons, endFA_r, endFA_n, endTA_r, endTA_n, endRA_r, endRA_n, endEA_r, endEA_n, List.take, fltR, resultsA, resAs, resA, XA_block, XA_cond, pickX_t, pickX_f, pickX_b, XA_skip_blk, XA_skip_lp, XA_exit_seq, XA_exit_lp, XA_exit_blk, XA_exit_nil, load1, Ev.loadCells, objCells, bodyCells, setCells, AV.flat, AV.flat1, backR, backV, backCell, mapO, AV.cells, AV.atom, AV.tree, fillV, repeatL, treeCell, freezeAll, eqCells, callV_T, callV_F, passN, passV, passCell, srcCells, sliceBounds, hiB, loB, thenQ_nA, thenQ_xA, thenQ_rA, runK_nA, runK_xA, runK_rA, wrap_i64, wrap_u64, wrap_u32, wrap_u8, wrap_u16, AV.atom, normA, lkE, fixObjs, fixBody, fixV, fixCell, ci', hidx, o, w1, w2, w3, w4, hS, hV, h9', h0', h0, IntKind.bits, getV]
          · have h9' : ¬ (i : Int) = 9 := by omega
            subst hz
            simp [beqI, bneI, mm_min2, mm_max2, mm_min3, mm_max3, startE, lkE, lkX, lkE_rest, sx, substE, opVA, objs0, List.replicate, XA_seq, XA_region, XOA_go, goE_someA, opV, ev, putA, layAll, XOA_nil, XA_skip_seq, XA_skip_nil, XOA_gd, goG_tA, goG_uA, binV, bi_add, bi_sub, bi_mul, bi_quo, bi_rem, bi_eql, bi_neq, bi_lss, bi_leq, bi_gtr, bi_geq, bi_shl, bi_shr, bi_and, bi_or, bi_xor, unV, XA_ret_nil, XA_ret_cons, endFA_r, endFA_n, endTA_r, endTA_n, endRA_r, endRA_n, endEA_r, endEA_n, List.take, fltR, resultsA, resAs, resA, XA_block, XA_cond, pickX_t, pickX_f, pickX_b, XA_skip_blk, XA_skip_lp, XA_exit_seq, XA_exit_lp, XA_exit_blk, XA_exit_nil, load1, Ev.loadCells, objCells, bodyCells, setCells, AV.flat, AV.flat1, backR, backV, backCell, mapO, AV.cells, AV.atom, AV.tree, fillV, repeatL, treeCell, freezeAll, eqCells, callV_T, callV_F, passN, passV, passCell, srcCells, sliceBounds, hiB, loB, thenQ_nA, thenQ_xA, thenQ_rA, runK_nA, runK_xA, runK_rA, wrap_i64, wrap_u64, wrap_u32, wrap_u8, wrap_u16, AV.atom, normA, lkE, fixObjs, fixBody, fixV, fixCell, ci', hidx, o, w1, w2, w3, w4, hS, hV, h9', h0', h0, IntKind.bits, getV]
      · rw [show gv (c :: b.drop (i + 1)) i u = some (u + c * 128 ^ i, i + 1) from by simp [gv, hi10, ch, cb]] at hJ
        rw [← hJ]
        have hVe : V = u + c * 128 ^ i := by
          rw [hgood (by omega), hcm]
        by_cases h9 : i = 9
        · have hc1 : ¬ 1 < c := fun h => cb (.inl ⟨h9, h⟩)
          have hc0 : ¬ c = 0 := fun h => cb (.inr ⟨by omega, h⟩)
          have h9I : decide ((i : Int) = 9) = true := by simp; omega
          have h0' : (0 : Int) < (i : Int) := by omega
          have h0 : 0 < i := by omega
          simp [beqI, bneI, mm_min2, mm_max2, mm_min3, mm_max3, startE, lkE, lkX, lkE_rest, sx, substE, opVA, objs0, List.replicate, XA_seq, XA_region, XOA_go, goE_someA, opV, ev, putA, layAll, XOA_nil, XA_skip_seq, XA_skip_nil, XOA_gd, goG_tA, goG_uA, binV, bi_add, bi_sub, bi_mul, bi_quo, bi_rem, bi_eql, bi_neq, bi_lss, bi_leq, bi_gtr, bi_geq, bi_shl, bi_shr, bi_and, bi_or, bi_xor, unV, XA_ret_nil, XA_ret_cons, endFA_r, endFA_n, endTA_r, endTA_n, endRA_r, endRA_n, endEA_r, endEA_n, List.take, fltR, resultsA, resAs, resA, XA_block, XA_cond, pickX_t, pickX_f, pickX_b, XA_skip_blk, XA_skip_lp, XA_exit_seq, XA_exit_lp, XA_exit_blk, XA_exit_nil, load1, Ev.loadCells, objCells, bodyCells, setCells, AV.flat, AV.flat1, backR, backV, backCell, mapO, AV.cells, AV.atom, AV.tree, fillV, repeatL, treeCell, freezeAll, eqCells, callV_T, callV_F, passN, passV, passCell, srcCells, sliceBounds, hiB, loB, thenQ_nA, thenQ_xA, thenQ_rA, runK_nA, runK_xA, runK_rA, wrap_i64, wrap_u64, wrap_u32, wrap_u8, wrap_u16, AV.atom, normA, lkE, fixObjs, fixBody, fixV, fixCell, ci', hidx, o, w1, w2, w3, w4, hS, hV, ch, hc1, hc0, h9I, h0', h0, ws, IntKind.bits, getV, hVe]
        · have h9' : ¬ (i : Int) = 9 := by omega
          by_cases h0 : 0 < i
          · have h0' : (0 : Int) < (i : Int) := by omega
            have hc0 : ¬ c = 0 := fun h => cb (.inr ⟨h0, h⟩)
            simp [beqI, bneI, mm_min2, mm_max2, mm_min3, mm_max3, startE, lkE, lkX, lkE_rest, sx, substE, opVA, objs0, List.replicate, XA_seq, XA_region, XOA_go, goE_someA, opV, ev, putA, layAll, XOA_nil, XA_skip_seq, XA_skip_nil, XOA_gd, goG_tA, goG_uA, binV, bi_add, bi_sub, bi_mul, bi_quo, bi_rem, bi_eql, bi_neq, bi_lss, bi_leq, bi_gtr, bi_geq, bi_shl, bi_shr, bi_and, bi_or, bi_xor, unV, XA_ret_nil, XA_ret_cons, endFA_r, endFA_n, endTA_r, endTA_n, endRA_r, endRA_n, endEA_r, endEA_n, List.take, fltR, resultsA, resAs, resA, XA_block, XA_cond, pickX_t, pickX_f, pickX_b, XA_skip_blk, XA_skip_lp, XA_exit_seq, XA_exit_lp, XA_exit_blk, XA_exit_nil, load1, Ev.loadCells, objCells, bodyCells, setCells, AV.flat, AV.flat1, backR, backV, backCell, mapO, AV.cells, AV.atom, AV.tree, fillV, repeatL, treeCell, freezeAll, eqCells, callV_T, callV_F, passN, passV, passCell, srcCells, sliceBounds, hiB, loB, thenQ_nA, thenQ_xA, thenQ_rA, runK_nA, runK_xA, runK_rA, wrap_i64, wrap_u64, wrap_u32, wrap_u8, wrap_u16, AV.atom, normA, lkE, fixObjs, fixBody, fixV, fixCell, ci', hidx, o, w1, w2, w3, w4, hS, hV, ch, hc0, h9', h0', h0, ws, IntKind.bits, getV, hVe]
          · have h0' : ¬ (0 : Int) < (i : Int) := by omega
            simp [beqI, bneI, mm_min2, mm_max2, mm_min3, mm_max3, startE, lkE, lkX, lkE_rest, sx, substE, opVA, objs0, List.replicate, XA_seq, XA_region, XOA_go, goE_someA, opV, ev, putA, layAll, XOA_nil, XA_skip_seq, XA_skip_nil, XOA_gd, goG_tA, goG_uA, binV, bi_add, bi_sub, bi_mul, bi_quo, bi_rem, bi_eql, bi_neq, bi_lss, bi_leq, bi_gtr, bi_geq, bi_shl, bi_shr, bi_and, bi_or, bi_xor, unV, XA_ret_nil, XA_ret_cons, endFA_r, endFA_n, endTA_r, endTA_n, endRA_r, endRA_n, endEA_r, endEA_n, List.take, fltR, resultsA, resAs, resA, XA_block, XA_cond, pickX_t, pickX_f, pickX_b, XA_skip_blk, XA_skip_lp, XA_exit_seq, XA_exit_lp, XA_exit_blk, XA_exit_nil, load1, Ev.loadCells, objCells, bodyCells, setCells, AV.flat, AV.flat1, backR, backV, backCell, mapO, AV.cells, AV.atom, AV.tree, fillV, repeatL, treeCell, freezeAll, eqCells, callV_T, callV_F, passN, passV, passCell, srcCells, sliceBounds, hiB, loB, thenQ_nA, thenQ_xA, thenQ_rA, runK_nA, runK_xA, runK_rA, wrap_i64, wrap_u64, wrap_u32, wrap_u8, wrap_u16, AV.atom, normA, lkE, fixObjs, fixBody, fixV, fixCell, ci', hidx, o, w1, w2, w3, w4, hS, hV, ch, h9', h0', h0, ws, IntKind.bits, getV, hVe]
  · have hi2 : i = m := by omega
    have ci' : ¬ (i : Int) < (m : Int) := by omega
    have hn : gv b 0 0 = none := by
      rw [← hJ]
      by_cases h10 : i = 10
      · rw [h10, gv_ten]
      · rw [List.drop_eq_nil_of_le (by omega)]
        rfl
    rw [hn]
    simp [beqI, bneI, mm_min2, mm_max2, mm_min3, mm_max3, startE, lkE, lkX, lkE_rest, sx, substE, opVA, objs0, List.replicate, XA_seq, XA_region, XOA_go, goE_someA, opV, ev, putA, layAll, XOA_nil, XA_skip_seq, XA_skip_nil, XOA_gd, goG_tA, goG_uA, binV, bi_add, bi_sub, bi_mul, bi_quo, bi_rem, bi_eql, bi_neq, bi_lss, bi_leq, bi_gtr, bi_geq, bi_shl, bi_shr, bi_and, bi_or, bi_xor, unV, XA_ret_nil, XA_ret_cons, endFA_r, endFA_n, endTA_r, endTA_n, endRA_r, endRA_n, endEA_r, endEA_n, List.take, fltR, resultsA, resAs, resA, XA_block, XA_cond, pickX_t, pickX_f, pickX_b, XA_skip_blk, XA_skip_lp, XA_exit_seq, XA_exit_lp, XA_exit_blk, XA_exit_nil, load1, Ev.loadCells, objCells, bodyCells, setCells, AV.flat, AV.flat1, backR, backV, backCell, mapO, AV.cells, AV.atom, AV.tree, fillV, repeatL, treeCell, freezeAll, eqCells, callV_T, callV_F, passN, passV, passCell, srcCells, sliceBounds, hiB, loB, thenQ_nA, thenQ_xA, thenQ_rA, runK_nA, runK_xA, runK_rA, wrap_i64, wrap_u64, wrap_u32, wrap_u8, wrap_u16, AV.atom, normA, lkE, fixObjs, fixBody, fixV, fixCell, ci', getV]
end Go.Proofs.Ytpohmfihpnineaa
end
section
set_option linter.unusedSimpArgs false
set_option linter.unusedVariables false
set_option maxHeartbeats 4000000
set_option maxRecDepth 100000
namespace Go.Proofs.Ytpohmfihpnineaa
open Go.Ev
theorem digN_ok : ∀ (u : Nat), okB (digN u) := by
  intro u
  induction u using Nat.strongRecOn with
  | _ u ih =>
    intro c hc
    by_cases h : u < 128
    · rw [digN_low h] at hc
      simp at hc
      subst hc
      exact ⟨by omega, by omega⟩
    · rw [digN_high h] at hc
      rcases List.mem_cons.1 hc with rfl | hc
      · exact ⟨by omega, by omega⟩
      · exact ih (u / 128) (by omega) c hc
theorem gv_dig : ∀ (u i : Nat) (a : Int) (r : List Int), i ≤ 9 → (0 < i → 0 < u) → u * 128 ^ i < 18446744073709551616 → gv (digN u ++ r) i a = some (a + u * 128 ^ i, i + (digN u).length) := by
  intro u
  induction u using Nat.strongRecOn with
  | _ u ih =>
    intro i a r hi h0 hlt
    have hi10 : ¬ i = 10 := by omega
    by_cases h : u < 128
    · rw [digN_low h]
      have c1 : ¬ (128 : Int) ≤ (u : Int) := by omega
      have c2 : ¬ ((i = 9 ∧ 1 < (u : Int)) ∨ (0 < i ∧ (u : Int) = 0)) := by
        rintro (⟨h9, h1⟩ | ⟨h1, h2⟩)
        · subst h9
          have : 2 * 128 ^ 9 ≤ u * 128 ^ 9 := Nat.mul_le_mul_right _ (by omega)
          simp at this hlt
          omega
        · have := h0 h1; omega
      simp only [List.cons_append, List.nil_append, gv, if_neg hi10, if_neg c1, if_neg c2]
      simp
    · rw [digN_high h]
      have c1 : (128 : Int) ≤ ((u % 128 + 128 : Nat) : Int) := by omega
      have hq : u / 128 * 128 ^ (i + 1) ≤ u * 128 ^ i := by
        rw [Nat.pow_succ, Nat.mul_comm (128 ^ i) 128, ← Nat.mul_assoc]
        exact Nat.mul_le_mul_right _ (by omega)
      have hi8 : i ≤ 8 := by
        by_cases c : i ≤ 8
        · exact c
        · have h9 : i = 9 := by omega
          subst h9
          have : 128 * 128 ^ 9 ≤ u * 128 ^ 9 := Nat.mul_le_mul_right _ (by omega)
          simp at this hlt
          omega
      have := ih (u / 128) (by omega) (i + 1) (a + ((u % 128 + 128 : Nat) : Int) % 128 * 128 ^ i) r (by omega) (fun _ => by omega) (by omega)
      simp only [List.cons_append, gv, if_neg hi10, if_pos c1, this]
      have e : ((u % 128 + 128 : Nat) : Int) % 128 = ((u % 128 : Nat) : Int) := by omega
      have e2 : (u : Int) = ((u / 128 : Nat) : Int) * 128 + ((u % 128 : Nat) : Int) := by omega
      rw [e, Int.pow_succ]
      generalize ((u % 128 : Nat) : Int) = y at *
      generalize ((u / 128 : Nat) : Int) = z at *
      rw [e2, List.length_cons]
      have e3 : (z * 128 + y) * 128 ^ i = y * 128 ^ i + z * (128 ^ i * 128) := by
        rw [Int.add_mul, Int.mul_assoc, Int.mul_comm 128 (128 ^ i)]
        omega
      rw [e3]
      simp only [Option.some.injEq, Prod.mk.injEq]
      omega
theorem gv_all (u : Nat) (r : List Int) (hu : u < 18446744073709551616) : gv (digN u ++ r) 0 0 = some ((u : Int), (digN u).length) := by
  have := gv_dig u 0 0 r (by omega) (by omega) (by simpa using hu)
  simpa using this
def hv (b : List Int) (n : Nat) : Nat → Int
  | 0 => 0
  | k + 1 => hv b n k * 128 + gI b (n - k) % 128
end Go.Proofs.Ytpohmfihpnineaa
end
section
set_option linter.unusedSimpArgs false
set_option linter.unusedVariables false
set_option maxHeartbeats 4000000
set_option maxRecDepth 100000
namespace Go.Proofs.Ytpohmfihpnineaa
open Go.Ev
def putL (l : List Int) : List Int := l.flatMap fun n => digN n.toNat
theorem putL_one (n : Nat) : putL [(n : Int)] = digN n := by simp [putL]
theorem putL_snoc (l : List Int) (i : Nat) (h : i < l.length) : putL (l.take (i + 1)) = putL (l.take i) ++ digN l[i].toNat := by
  unfold putL
  rw [List.take_succ_eq_append_getElem h, List.flatMap_append]
  simp
theorem putL_len (l : List Int) (h : ∀ n ∈ l, n ≤ 9223372036854775807) : (putL l).length ≤ 10 * l.length := by
  induction l with
  | nil => simp [putL]
  | cons a l ih =>
    have := ih (fun u hu => h u (by simp [hu]))
    have := digN_ten (u := a.toNat) (by have := h a (by simp); omega)
    simp only [putL, List.flatMap_cons, List.length_append, List.length_cons] at *
    omega
def nat63 (l : List Int) : Prop := ∀ n ∈ l, 0 ≤ n ∧ n ≤ 9223372036854775807
theorem wput_ev (b l : List Int) (hb : b.length ≤ 100000) (hl : nat63 l) (hn : l.length ≤ 1000) : cfT tab 95 [.ptr 0 0 0, rI l] [⟨0, .var [rB b]⟩] = some (.tup [], [⟨0, .var [rB (b ++ putL l)]⟩]) := by
  refine cfTA_R (mf := Mf.f95) rfl rfl (by kernel_rfl) ?_
  simp only [Mf.f95]
  simp [beqI, bneI, mm_min2, mm_max2, mm_min3, mm_max3, startE, lkE, lkX, lkE_rest, sx, substE, opVA, objs0, List.replicate, XA_seq, XA_region, XOA_go, goE_someA, opV, ev, putA, layAll, XOA_nil, XA_skip_seq, XA_skip_nil, XOA_gd, goG_tA, goG_uA, binV, bi_add, bi_sub, bi_mul, bi_quo, bi_rem, bi_eql, bi_neq, bi_lss, bi_leq, bi_gtr, bi_geq, bi_shl, bi_shr, bi_and, bi_or, bi_xor, unV, XA_ret_nil, XA_ret_cons, endFA_r, endFA_n, endTA_r, endTA_n, endRA_r, endRA_n, endEA_r, endEA_n, List.take, fltR, resultsA, resAs, resA, XA_block, XA_cond, pickX_t, pickX_f, pickX_b, XA_skip_blk, XA_skip_lp, XA_exit_seq, XA_exit_lp, XA_exit_blk, XA_exit_nil, load1, Ev.loadCells, objCells, bodyCells, setCells, AV.flat, AV.flat1, backR, backV, backCell, mapO, AV.cells, AV.atom, AV.tree, fillV, repeatL, treeCell, freezeAll, eqCells, callV_T, callV_F, passN, passV, passCell, srcCells, sliceBounds, hiB, loB, thenQ_nA, thenQ_xA, thenQ_rA, runK_nA, runK_xA, runK_rA, wrap_i64, wrap_u64, wrap_u32, wrap_u8, wrap_u16, rI]
  refine XA_for (fun i => ⟨[(0, .ptr 0 0 0), (6, rI l), (7, .int .i64 l.length), (8, .int .i64 i)], [⟨0, .var [rB (b ++ putL (l.take i))]⟩]⟩)
    (fun i => True) l.length 0 (Nat.zero_le _) (by simp [AV.atom, normA, lkE, fixObjs, fixBody, fixV, fixCell, rI, rB, putL]) trivial ?_ ?_
  · intro i _ hi _
    have hi' : (i : Int) < l.length := by omega
    have hv := hl _ (List.getElem_mem hi)
    have hln := putL_len (l.take i) (fun n hn => (hl n (List.mem_of_mem_take hn)).2)
    rw [List.length_take] at hln
    have e := put_ev (b ++ putL (l.take i)) l[i].toNat (by rw [List.length_append]; omega) (by omega)
    rw [List.append_assoc, ← putL_snoc l i hi, Int.toNat_of_nonneg hv.1] at e
    have hw : IntKind.u64.wrap l[i] = l[i] := wrap_u64 (by omega) (by omega)
    have ix := idxI l i hi
    generalize b ++ putL (l.take i) = p at *
    generalize b ++ putL (l.take (i + 1)) = q at *
    generalize l[i] = n at *
    simp only [rB] at e
    simp [beqI, bneI, mm_min2, mm_max2, mm_min3, mm_max3, startE, lkE, lkX, lkE_rest, sx, substE, opVA, objs0, List.replicate, XA_seq, XA_region, XOA_go, goE_someA, opV, ev, putA, layAll, XOA_nil, XA_skip_seq, XA_skip_nil, XOA_gd, goG_tA, goG_uA, binV, bi_add, bi_sub, bi_mul, bi_quo, bi_rem, bi_eql, bi_neq, bi_lss, bi_leq, bi_gtr, bi_geq, bi_shl, bi_shr, bi_and, bi_or, bi_xor, unV, XA_ret_nil, XA_ret_cons, endFA_r, endFA_n, endTA_r, endTA_n, endRA_r, endRA_n, endEA_r, endEA_n, List.take, fltR, resultsA, resAs, resA, XA_block, XA_cond, pickX_t, pickX_f, pickX_b, XA_skip_blk, XA_skip_lp, XA_exit_seq, XA_exit_lp, XA_exit_blk, XA_exit_nil, load1, Ev.loadCells, objCells, bodyCells, setCells, AV.flat, AV.flat1, backR, backV, backCell, mapO, AV.cells, AV.atom, AV.tree, fillV, repeatL, treeCell, freezeAll, eqCells, callV_T, callV_F, passN, passV, passCell, srcCells, sliceBounds, hiB, loB, thenQ_nA, thenQ_xA, thenQ_rA, runK_nA, runK_xA, runK_rA, wrap_i64, wrap_u64, wrap_u32, wrap_u8, wrap_u16, AV.atom, normA, lkE, fixObjs, fixBody, fixV, fixCell, hi', rI, rB, ix, hw, e, wrap_succ i l.length hi (by omega)]
  · intro _
    simp [beqI, bneI, mm_min2, mm_max2, mm_min3, mm_max3, startE, lkE, lkX, lkE_rest, sx, substE, opVA, objs0, List.replicate, XA_seq, XA_region, XOA_go, goE_someA, opV, ev, putA, layAll, XOA_nil, XA_skip_seq, XA_skip_nil, XOA_gd, goG_tA, goG_uA, binV, bi_add, bi_sub, bi_mul, bi_quo, bi_rem, bi_eql, bi_neq, bi_lss, bi_leq, bi_gtr, bi_geq, bi_shl, bi_shr, bi_and, bi_or, bi_xor, unV, XA_ret_nil, XA_ret_cons, endFA_r, endFA_n, endTA_r, endTA_n, endRA_r, endRA_n, endEA_r, endEA_n, List.take, fltR, resultsA, resAs, resA, XA_block, XA_cond, pickX_t, pickX_f, pickX_b, XA_skip_blk, XA_skip_lp, XA_exit_seq, XA_exit_lp, XA_exit_blk, XA_exit_nil, load1, Ev.loadCells, objCells, bodyCells, setCells, AV.flat, AV.flat1, backR, backV, backCell, mapO, AV.cells, AV.atom, AV.tree, fillV, repeatL, treeCell, freezeAll, eqCells, callV_T, callV_F, passN, passV, passCell, srcCells, sliceBounds, hiB, loB, thenQ_nA, thenQ_xA, thenQ_rA, runK_nA, runK_xA, runK_rA, wrap_i64, wrap_u64, wrap_u32, wrap_u8, wrap_u16, AV.atom, normA, lkE, fixObjs, fixBody, fixV, fixCell, endRA_n, endRA_r]
structure smallD (d : Dm) : Prop where
  s : d.S.length ≤ 4
  u : d.U.length ≤ 3
  sv : ∀ n ∈ d.S, 0 ≤ n ∧ n ≤ 40
  ul : ∀ l ∈ d.U, l.length ≤ 40
  uv : ∀ l ∈ d.U, ∀ n ∈ l, 0 ≤ n ∧ n ≤ 40
theorem small_of {d : Dm} (h : goodD d.S d.U = true) : smallD d := by
  have h1 := good_len h
  refine ⟨h1.2.1, by omega, fun n hn => ?_, fun l hl => ?_, fun l hl n hn => ?_⟩
  · obtain ⟨i, hi, rfl⟩ := List.getElem_of_mem hn
    have := good_size h hi
    rw [gI_get _ _ hi] at this
    omega
  · obtain ⟨i, hi, rfl⟩ := List.getElem_of_mem hl
    have h2 := (good_up h hi).1
    have := good_size h (i := i) (by omega)
    rw [gR_get _ _ hi] at h2
    omega
  · obtain ⟨i, hi, rfl⟩ := List.getElem_of_mem hl
    obtain ⟨k, hk, rfl⟩ := List.getElem_of_mem hn
    have h2 := (good_up h hi).2 k (by rw [gR_get _ _ hi]; exact hk)
    have := good_size h (i := i + 1) (by omega)
    rw [gR_get _ _ hi, gI_get _ _ hk] at h2
    omega
theorem flatMap_len {α : Type} (f : α → List Int) (c : Nat) : ∀ (l : List α), (∀ x ∈ l, (f x).length ≤ c) → (l.flatMap f).length ≤ c * l.length
  | [], _ => by simp
  | a :: l, h => by
    have h1 := flatMap_len f c l fun x hx => h x (by simp [hx])
    have h2 := h a (by simp)
    rw [List.flatMap_cons, List.length_append, List.length_cons, Nat.mul_add]
    omega
theorem flatMap_snoc {α : Type} (f : α → List Int) (l : List α) (i : Nat) (h : i < l.length) : (l.take (i + 1)).flatMap f = (l.take i).flatMap f ++ f l[i] := by
  rw [List.take_succ_eq_append_getElem h, List.flatMap_append]
  simp
def dimB (d : Dm) : List Int := digN d.S.length ++ (putL d.S ++ d.U.flatMap putL)
theorem smallD.row {d : Dm} (h : smallD d) : ∀ l ∈ d.U, (putL l).length ≤ 400 := by
  intro l hl
  have h1 := putL_len l fun n hn => by have := h.uv l hl n hn; omega
  have h2 := h.ul l hl
  omega
theorem smallD.head {d : Dm} (h : smallD d) : (digN d.S.length).length ≤ 10 ∧ (putL d.S).length ≤ 40 := by
  have h1 := putL_len d.S fun n hn => by have := h.sv n hn; omega
  have h2 := h.s
  exact ⟨digN_ten (by omega), by omega⟩
theorem smallD.rows {d : Dm} (h : smallD d) (k : Nat) : ((d.U.take k).flatMap putL).length ≤ 1200 := by
  have h1 := flatMap_len putL 400 (d.U.take k) fun l hl => h.row l (List.mem_of_mem_take hl)
  rw [List.length_take] at h1
  have := h.u
  omega
theorem smallD.len {d : Dm} (h : smallD d) : (dimB d).length ≤ 1250 := by
  have h1 := h.head
  have h2 := h.rows d.U.length
  rw [List.take_length] at h2
  unfold dimB
  simp only [List.length_append]
  omega
def headB (ds : List Dm) (m : Int) : List Int := digN m.toNat ++ digN ds.length
def bytesG (ds : List Dm) (m : Int) : List Int := headB ds m ++ ds.flatMap dimB
def bytesC (ds : List Dm) (m : Int) : List Int := if goodC ds m = true then bytesG ds m else []
theorem headB_len {ds : List Dm} {m : Int} (g : goodC ds m = true) : (headB ds m).length ≤ 20 := by
  have := goodC_len g
  have h1 := digN_ten (u := m.toNat) (by omega)
  have h2 := digN_ten (u := ds.length) (by omega)
  unfold headB
  rw [List.length_append]
  omega
theorem small_at {ds : List Dm} {m : Int} (g : goodC ds m = true) : ∀ d ∈ ds, smallD d := by
  intro d hd
  unfold goodC at g
  simp only [Bool.and_eq_true, List.all_eq_true] at g
  exact small_of (g.2.2 d hd)
theorem take_len {ds : List Dm} {m : Int} (g : goodC ds m = true) (i : Nat) : ((ds.take i).flatMap dimB).length ≤ 5000 := by
  have h1 := flatMap_len dimB 1250 (ds.take i) fun d hd => (small_at g d (List.mem_of_mem_take hd)).len
  have := goodC_len g
  rw [List.length_take] at h1
  omega
theorem Bytes_ev (ds : List Dm) (m : Int) (hC : okC ds) : cvT tab 74 [.agg [.ro ds.length (flatD ds), .int .i64 m]] = some (rB (bytesC ds m)) := by
  refine cvTA_R (mf := Mf.f74) rfl rfl (by kernel_rfl) ?_
  simp only [Mf.f74]
  cases g : goodC ds m with
  | false => simp [beqI, bneI, mm_min2, mm_max2, mm_min3, mm_max3, startE, lkE, lkX, lkE_rest, sx, substE, opVA, objs0, List.replicate, XA_seq, XA_region, XOA_go, goE_someA, opV, ev, putA, layAll, XOA_nil, XA_skip_seq, XA_skip_nil, XOA_gd, goG_tA, goG_uA, binV, bi_add, bi_sub, bi_mul, bi_quo, bi_rem, bi_eql, bi_neq, bi_lss, bi_leq, bi_gtr, bi_geq, bi_shl, bi_shr, bi_and, bi_or, bi_xor, unV, XA_ret_nil, XA_ret_cons, endFA_r, endFA_n, endTA_r, endTA_n, endRA_r, endRA_n, endEA_r, endEA_n, List.take, fltR, resultsA, resAs, resA, XA_block, XA_cond, pickX_t, pickX_f, pickX_b, XA_skip_blk, XA_skip_lp, XA_exit_seq, XA_exit_lp, XA_exit_blk, XA_exit_nil, load1, Ev.loadCells, objCells, bodyCells, setCells, AV.flat, AV.flat1, backR, backV, backCell, mapO, AV.cells, AV.atom, AV.tree, fillV, repeatL, treeCell, freezeAll, eqCells, callV_T, callV_F, passN, passV, passCell, srcCells, sliceBounds, hiB, loB, thenQ_nA, thenQ_xA, thenQ_rA, runK_nA, runK_xA, runK_rA, wrap_i64, wrap_u64, wrap_u32, wrap_u8, wrap_u16, sgood_ev ds m hC, g, bytesC, rB]
  | true =>
    have hl := goodC_len g
    have hB : bytesC ds m = headB ds m ++ ds.flatMap dimB := by unfold bytesC bytesG; rw [if_pos g]
    have e0 := wput_ev [] [m, ds.length] (by simp) (by intro n hn; simp at hn; omega) (by simp)
    have hp0 : [] ++ putL [m, (ds.length : Int)] = headB ds m := by simp [putL, headB]
    rw [hp0] at e0
    simp only [rI, rB] at e0
    simp at e0
    simp [beqI, bneI, mm_min2, mm_max2, mm_min3, mm_max3, startE, lkE, lkX, lkE_rest, sx, substE, opVA, objs0, List.replicate, XA_seq, XA_region, XOA_go, goE_someA, opV, ev, putA, layAll, XOA_nil, XA_skip_seq, XA_skip_nil, XOA_gd, goG_tA, goG_uA, binV, bi_add, bi_sub, bi_mul, bi_quo, bi_rem, bi_eql, bi_neq, bi_lss, bi_leq, bi_gtr, bi_geq, bi_shl, bi_shr, bi_and, bi_or, bi_xor, unV, XA_ret_nil, XA_ret_cons, endFA_r, endFA_n, endTA_r, endTA_n, endRA_r, endRA_n, endEA_r, endEA_n, List.take, fltR, resultsA, resAs, resA, XA_block, XA_cond, pickX_t, pickX_f, pickX_b, XA_skip_blk, XA_skip_lp, XA_exit_seq, XA_exit_lp, XA_exit_blk, XA_exit_nil, load1, Ev.loadCells, objCells, bodyCells, setCells, AV.flat, AV.flat1, backR, backV, backCell, mapO, AV.cells, AV.atom, AV.tree, fillV, repeatL, treeCell, freezeAll, eqCells, callV_T, callV_F, passN, passV, passCell, srcCells, sliceBounds, hiB, loB, thenQ_nA, thenQ_xA, thenQ_rA, runK_nA, runK_xA, runK_rA, wrap_i64, wrap_u64, wrap_u32, wrap_u8, wrap_u16, callV_O, okIds, passObjs, passBody, backObjs, backBody, adopts, List.idxOf?, List.findIdx?, List.findIdx?.go, sgood_ev ds m hC, g, e0]
    refine XA_for (fun i => ⟨[(3, .ptr 1 0 0), (19, .ro ds.length (flatD ds)), (20, .int .i64 ds.length), (21, .int .i64 i)], [⟨0, .none⟩, ⟨0, .var [rB (headB ds m ++ (ds.take i).flatMap dimB)]⟩, ⟨0, .none⟩]⟩)
      (fun i => True) ds.length 0 (Nat.zero_le _) (by simp [AV.atom, normA, lkE, fixObjs, fixBody, fixV, fixCell, rB]) trivial ?_ ?_
    · intro i _ hi _
      have hi' : (i : Int) < ds.length := by omega
      have hb := headB_len g
      have ht := take_len g i
      have hsn := flatMap_snoc dimB ds i hi
      have hsm := small_at g _ (List.getElem_mem hi)
      have hd := dropD ds i hi
      rw [gD_get hi] at hd
      have hws := wrap_succ i ds.length hi (by omega)
      generalize ds[i] = d at *
      have hh := hsm.head
      have e1 := wput_ev (headB ds m ++ (ds.take i).flatMap dimB) [d.S.length] (by rw [List.length_append]; omega) (by intro n hn; simp at hn; have := hsm.s; omega) (by simp)
      have e2 := wput_ev (headB ds m ++ (ds.take i).flatMap dimB ++ putL [d.S.length]) d.S (by rw [putL_one]; simp only [List.length_append]; omega) (fun n hn => by have := hsm.sv n hn; omega) (by have := hsm.s; omega)
      obtain ⟨A, hA⟩ : ∃ A, headB ds m ++ (ds.take i).flatMap dimB = A := ⟨_, rfl⟩
      obtain ⟨A1, hA1⟩ : ∃ A1, A ++ putL [(d.S.length : Int)] = A1 := ⟨_, rfl⟩
      obtain ⟨A2, hA2⟩ : ∃ A2, A1 ++ putL d.S = A2 := ⟨_, rfl⟩
      rw [hA] at e1 e2
      rw [hA1] at e1 e2
      rw [hA2] at e2
      have hA2l : A2.length ≤ 7000 := by
        rw [← hA2, ← hA1, ← hA, putL_one]
        simp only [List.length_append]
        omega
      simp only [rI, rB, rR] at e1 e2 hd
      simp at e1
      simp [beqI, bneI, mm_min2, mm_max2, mm_min3, mm_max3, startE, lkE, lkX, lkE_rest, sx, substE, opVA, objs0, List.replicate, XA_seq, XA_region, XOA_go, goE_someA, opV, ev, putA, layAll, XOA_nil, XA_skip_seq, XA_skip_nil, XOA_gd, goG_tA, goG_uA, binV, bi_add, bi_sub, bi_mul, bi_quo, bi_rem, bi_eql, bi_neq, bi_lss, bi_leq, bi_gtr, bi_geq, bi_shl, bi_shr, bi_and, bi_or, bi_xor, unV, XA_ret_nil, XA_ret_cons, endFA_r, endFA_n, endTA_r, endTA_n, endRA_r, endRA_n, endEA_r, endEA_n, List.take, fltR, resultsA, resAs, resA, XA_block, XA_cond, pickX_t, pickX_f, pickX_b, XA_skip_blk, XA_skip_lp, XA_exit_seq, XA_exit_lp, XA_exit_blk, XA_exit_nil, load1, Ev.loadCells, objCells, bodyCells, setCells, AV.flat, AV.flat1, backR, backV, backCell, mapO, AV.cells, AV.atom, AV.tree, fillV, repeatL, treeCell, freezeAll, eqCells, callV_T, callV_F, passN, passV, passCell, srcCells, sliceBounds, hiB, loB, thenQ_nA, thenQ_xA, thenQ_rA, runK_nA, runK_xA, runK_rA, wrap_i64, wrap_u64, wrap_u32, wrap_u8, wrap_u16, callV_O, okIds, passObjs, passBody, backObjs, backBody, adopts, List.idxOf?, List.findIdx?, List.findIdx?.go, AV.atom, normA, lkE, fixObjs, fixBody, fixV, fixCell, hi', hd, rB, rR, hA, e1, e2]
      refine XA_for (fun k => ⟨[(3, .ptr 1 0 0), (19, .ro ds.length (flatD ds)), (20, .int .i64 ds.length), (21, .int .i64 i), (34, rR d.U), (35, .int .i64 d.U.length), (36, .int .i64 k)], [⟨0, .none⟩, ⟨0, .var [rB (A2 ++ (d.U.take k).flatMap putL)]⟩, ⟨0, .none⟩]⟩)
        (fun i => True) d.U.length 0 (Nat.zero_le _) (by simp [AV.atom, normA, lkE, fixObjs, fixBody, fixV, fixCell, rB, rR]) trivial ?_ ?_
      · intro k _ hk _
        have hk' : (k : Int) < d.U.length := by omega
        have hrw := hsm.rows k
        have hsn2 := flatMap_snoc putL d.U k hk
        have hmem := List.getElem_mem hk
        have e3 := wput_ev (A2 ++ (d.U.take k).flatMap putL) d.U[k] (by rw [List.length_append]; omega) (fun n hn => by have := hsm.uv _ hmem n hn; omega) (by have := hsm.ul _ hmem; omega)
        rw [List.append_assoc, ← hsn2] at e3
        have ix := idxR d.U k hk
        generalize d.U[k] = row at *
        generalize A2 ++ (d.U.take k).flatMap putL = P at *
        generalize A2 ++ (d.U.take (k + 1)).flatMap putL = Q at *
        have hws2 := wrap_succ k d.U.length hk (by have := hsm.u; omega)
        simp only [rI, rB] at e3 ix
        simp [beqI, bneI, mm_min2, mm_max2, mm_min3, mm_max3, startE, lkE, lkX, lkE_rest, sx, substE, opVA, objs0, List.replicate, XA_seq, XA_region, XOA_go, goE_someA, opV, ev, putA, layAll, XOA_nil, XA_skip_seq, XA_skip_nil, XOA_gd, goG_tA, goG_uA, binV, bi_add, bi_sub, bi_mul, bi_quo, bi_rem, bi_eql, bi_neq, bi_lss, bi_leq, bi_gtr, bi_geq, bi_shl, bi_shr, bi_and, bi_or, bi_xor, unV, XA_ret_nil, XA_ret_cons, endFA_r, endFA_n, endTA_r, endTA_n, endRA_r, endRA_n, endEA_r, endEA_n, List.take, fltR, resultsA, resAs, resA, XA_block, XA_cond, pickX_t, pickX_f, pickX_b, XA_skip_blk, XA_skip_lp, XA_exit_seq, XA_exit_lp, XA_exit_blk, XA_exit_nil, load1, Ev.loadCells, objCells, bodyCells, setCells, AV.flat, AV.flat1, backR, backV, backCell, mapO, AV.cells, AV.atom, AV.tree, fillV, repeatL, treeCell, freezeAll, eqCells, callV_T, callV_F, passN, passV, passCell, srcCells, sliceBounds, hiB, loB, thenQ_nA, thenQ_xA, thenQ_rA, runK_nA, runK_xA, runK_rA, wrap_i64, wrap_u64, wrap_u32, wrap_u8, wrap_u16, callV_O, okIds, passObjs, passBody, backObjs, backBody, adopts, List.idxOf?, List.findIdx?, List.findIdx?.go, AV.atom, normA, lkE, fixObjs, fixBody, fixV, fixCell, hk', ix, rB, rR, e3, hws2]
      · intro _
        have hQ : A2 ++ d.U.flatMap putL = headB ds m ++ (ds.take (i + 1)).flatMap dimB := by
          rw [hsn, ← hA2, ← hA1, ← hA]
          simp [dimB, putL]
        rw [List.take_length, hQ]
        generalize hQQ : headB ds m ++ (ds.take (i + 1)).flatMap dimB = Q
        simp [beqI, bneI, mm_min2, mm_max2, mm_min3, mm_max3, startE, lkE, lkX, lkE_rest, sx, substE, opVA, objs0, List.replicate, XA_seq, XA_region, XOA_go, goE_someA, opV, ev, putA, layAll, XOA_nil, XA_skip_seq, XA_skip_nil, XOA_gd, goG_tA, goG_uA, binV, bi_add, bi_sub, bi_mul, bi_quo, bi_rem, bi_eql, bi_neq, bi_lss, bi_leq, bi_gtr, bi_geq, bi_shl, bi_shr, bi_and, bi_or, bi_xor, unV, XA_ret_nil, XA_ret_cons, endFA_r, endFA_n, endTA_r, endTA_n, endRA_r, endRA_n, endEA_r, endEA_n, List.take, fltR, resultsA, resAs, resA, XA_block, XA_cond, pickX_t, pickX_f, pickX_b, XA_skip_blk, XA_skip_lp, XA_exit_seq, XA_exit_lp, XA_exit_blk, XA_exit_nil, load1, Ev.loadCells, objCells, bodyCells, setCells, AV.flat, AV.flat1, backR, backV, backCell, mapO, AV.cells, AV.atom, AV.tree, fillV, repeatL, treeCell, freezeAll, eqCells, callV_T, callV_F, passN, passV, passCell, srcCells, sliceBounds, hiB, loB, thenQ_nA, thenQ_xA, thenQ_rA, runK_nA, runK_xA, runK_rA, wrap_i64, wrap_u64, wrap_u32, wrap_u8, wrap_u16, AV.atom, normA, lkE, fixObjs, fixBody, fixV, fixCell, rB, hws]
        rw [← hQQ]
        simp
    · intro _
      simp [beqI, bneI, mm_min2, mm_max2, mm_min3, mm_max3, startE, lkE, lkX, lkE_rest, sx, substE, opVA, objs0, List.replicate, XA_seq, XA_region, XOA_go, goE_someA, opV, ev, putA, layAll, XOA_nil, XA_skip_seq, XA_skip_nil, XOA_gd, goG_tA, goG_uA, binV, bi_add, bi_sub, bi_mul, bi_quo, bi_rem, bi_eql, bi_neq, bi_lss, bi_leq, bi_gtr, bi_geq, bi_shl, bi_shr, bi_and, bi_or, bi_xor, unV, XA_ret_nil, XA_ret_cons, endFA_r, endFA_n, endTA_r, endTA_n, endRA_r, endRA_n, endEA_r, endEA_n, List.take, fltR, resultsA, resAs, resA, XA_block, XA_cond, pickX_t, pickX_f, pickX_b, XA_skip_blk, XA_skip_lp, XA_exit_seq, XA_exit_lp, XA_exit_blk, XA_exit_nil, load1, Ev.loadCells, objCells, bodyCells, setCells, AV.flat, AV.flat1, backR, backV, backCell, mapO, AV.cells, AV.atom, AV.tree, fillV, repeatL, treeCell, freezeAll, eqCells, callV_T, callV_F, passN, passV, passCell, srcCells, sliceBounds, hiB, loB, thenQ_nA, thenQ_xA, thenQ_rA, runK_nA, runK_xA, runK_rA, wrap_i64, wrap_u64, wrap_u32, wrap_u8, wrap_u16, AV.atom, normA, lkE, fixObjs, fixBody, fixV, fixCell, hB, rB]
end Go.Proofs.Ytpohmfihpnineaa
end
section
set_option linter.unusedSimpArgs false
set_option linter.unusedVariables false
set_option maxHeartbeats 4000000
set_option maxRecDepth 100000
namespace Go.Proofs.Ytpohmfihpnineaa
open Go.Ev
end Go.Proofs.Ytpohmfihpnineaa
end
section
set_option linter.unusedSimpArgs false
set_option linter.unusedVariables false
set_option maxHeartbeats 4000000
set_option maxRecDepth 100000
namespace Go.Proofs.Ytpohmfihpnineaa
open Go.Ev
theorem gv_inv : ∀ (l : List Int) (i : Nat) (a v : Int) (n : Nat), okB l → gv l i a = some (v, n) →
    ∃ w : Nat, (0 < i → 0 < w) ∧ v = a + w * 128 ^ i ∧ n = i + (digN w).length ∧ l = digN w ++ l.drop (n - i)
  | [], i, a, v, n, _, h => by simp [gv] at h
  | c :: r, i, a, v, n, hb, h => by
    have hc := hb c (by simp)
    unfold byte at hc
    simp only [gv] at h
    split at h
    · cases h
    · split at h
      · rename_i h128
        obtain ⟨w, h1, h2, h3, h4⟩ := gv_inv r (i + 1) _ v n (fun x hx => hb x (by simp [hx])) h
        have hw : 0 < w := h1 (by omega)
        refine ⟨(c % 128).toNat + 128 * w, fun _ => by omega, ?_, ?_, ?_⟩
        · rw [h2, Int.pow_succ]
          have e : (((c % 128).toNat + 128 * w : Nat) : Int) = c % 128 + 128 * w := by omega
          rw [e, Int.add_mul, Int.add_assoc, Int.mul_comm (128 : Int) w, Int.mul_assoc, Int.mul_comm (128 : Int)]
        · rw [digN_high (show ¬ (c % 128).toNat + 128 * w < 128 by omega), List.length_cons, show ((c % 128).toNat + 128 * w) / 128 = w from by omega]
          omega
        · rw [digN_high (show ¬ (c % 128).toNat + 128 * w < 128 by omega), show ((c % 128).toNat + 128 * w) / 128 = w from by omega]
          rw [show n - i = (n - (i + 1)) + 1 from by omega, List.drop_succ_cons, List.cons_append, ← h4]
          congr 1
          omega
      · split at h
        · cases h
        · rename_i h10 h128 hz
          cases h
          refine ⟨c.toNat, fun h0 => by omega, by rw [Int.toNat_of_nonneg hc.1], ?_, ?_⟩
          · rw [digN_low (by omega)]; rfl
          · rw [digN_low (by omega), show i + 1 - i = 1 from by omega]
            simp
            omega
theorem gv_inv0 {l : List Int} {v : Int} {n : Nat} (hb : okB l) (h : gv l 0 0 = some (v, n)) : 0 ≤ v ∧ l = digN v.toNat ++ l.drop n := by
  obtain ⟨w, _, h2, h3, h4⟩ := gv_inv l 0 0 v n hb h
  simp at h2 h3
  subst h2
  refine ⟨by omega, ?_⟩
  simpa using h4
theorem gv_le : ∀ (l : List Int) (i : Nat) (a v : Int) (n : Nat), gv l i a = some (v, n) → n ≤ i + l.length ∧ i < n
  | [], i, a, v, n, h => by simp [gv] at h
  | c :: r, i, a, v, n, h => by
    simp only [gv] at h
    split at h
    · cases h
    · split at h
      · have := gv_le r (i + 1) _ v n h
        simp only [List.length_cons]; omega
      · split at h
        · cases h
        · cases h; simp
theorem gv_nn {b : List Int} {u : Int} {n : Nat} (hb : okB b) (h : gv b 0 0 = some (u, n)) : 0 ≤ u ∧ n ≤ b.length := by
  have h1 := (gv_inv0 hb h).1
  have h2 := (gv_le b 0 0 u n h).1
  exact ⟨h1, by omega⟩
theorem rB_drop (b : List Int) (n : Nat) (h : n ≤ b.length) : AV.ro (b.length - n) (((b.map (AV.int .u8)).drop n).take (b.length - n)) = rB (b.drop n) := by
  unfold rB
  rw [List.length_drop, List.map_drop, List.take_of_length_le (by simp)]
end Go.Proofs.Ytpohmfihpnineaa
end
