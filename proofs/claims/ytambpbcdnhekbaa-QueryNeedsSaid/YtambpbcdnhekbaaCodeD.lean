/- The document's Get; what was written is read. -/
import Derived.Test.YtambpbcdnhekbaaCodeC
set_option linter.unusedSimpArgs false
set_option linter.unusedVariables false
set_option maxHeartbeats 4000000
set_option maxRecDepth 100000
namespace Go.Proofs.Ytambpbcdnhekbaa
open Go.Ev
theorem digN_ok : ∀ (u : Nat), okB (digN u) := by
  intro u
  induction u using Nat.strongRecOn with
  | _ u ih =>
    intro c hc
    by_cases h : u < 128
    · rw [digN_low h] at hc
      simp at hc
      subst hc
      exact ⟨by omega, by omega⟩
    · rw [digN_high h] at hc
      rcases List.mem_cons.1 hc with rfl | hc
      · exact ⟨by omega, by omega⟩
      · exact ih (u / 128) (by omega) c hc
theorem gv_dig : ∀ (u i : Nat) (a : Int) (r : List Int), i ≤ 9 → (0 < i → 0 < u) → u * 128 ^ i < 18446744073709551616 → gv (digN u ++ r) i a = some (a + u * 128 ^ i, i + (digN u).length) := by
  intro u
  induction u using Nat.strongRecOn with
  | _ u ih =>
    intro i a r hi h0 hlt
    have hi10 : ¬ i = 10 := by omega
    by_cases h : u < 128
    · rw [digN_low h]
      have c1 : ¬ (128 : Int) ≤ (u : Int) := by omega
      have c2 : ¬ ((i = 9 ∧ 1 < (u : Int)) ∨ (0 < i ∧ (u : Int) = 0)) := by
        rintro (⟨h9, h1⟩ | ⟨h1, h2⟩)
        · subst h9
          have : 2 * 128 ^ 9 ≤ u * 128 ^ 9 := Nat.mul_le_mul_right _ (by omega)
          simp at this hlt
          omega
        · have := h0 h1; omega
      simp only [List.cons_append, List.nil_append, gv, if_neg hi10, if_neg c1, if_neg c2]
      simp
    · rw [digN_high h]
      have c1 : (128 : Int) ≤ ((u % 128 + 128 : Nat) : Int) := by omega
      have hq : u / 128 * 128 ^ (i + 1) ≤ u * 128 ^ i := by
        rw [Nat.pow_succ, Nat.mul_comm (128 ^ i) 128, ← Nat.mul_assoc]
        exact Nat.mul_le_mul_right _ (by omega)
      have hi8 : i ≤ 8 := by
        by_cases c : i ≤ 8
        · exact c
        · have h9 : i = 9 := by omega
          subst h9
          have : 128 * 128 ^ 9 ≤ u * 128 ^ 9 := Nat.mul_le_mul_right _ (by omega)
          simp at this hlt
          omega
      have := ih (u / 128) (by omega) (i + 1) (a + ((u % 128 + 128 : Nat) : Int) % 128 * 128 ^ i) r (by omega) (fun _ => by omega) (by omega)
      simp only [List.cons_append, gv, if_neg hi10, if_pos c1, this]
      have e : ((u % 128 + 128 : Nat) : Int) % 128 = ((u % 128 : Nat) : Int) := by omega
      have e2 : (u : Int) = ((u / 128 : Nat) : Int) * 128 + ((u % 128 : Nat) : Int) := by omega
      rw [e, Int.pow_succ]
      generalize ((u % 128 : Nat) : Int) = y at *
      generalize ((u / 128 : Nat) : Int) = z at *
      rw [e2, List.length_cons]
      have e3 : (z * 128 + y) * 128 ^ i = y * 128 ^ i + z * (128 ^ i * 128) := by
        rw [Int.add_mul, Int.mul_assoc, Int.mul_comm 128 (128 ^ i)]
        omega
      rw [e3]
      simp only [Option.some.injEq, Prod.mk.injEq]
      omega
theorem gv_all (u : Nat) (r : List Int) (hu : u < 18446744073709551616) : gv (digN u ++ r) 0 0 = some ((u : Int), (digN u).length) := by
  have := gv_dig u 0 0 r (by omega) (by omega) (by simpa using hu)
  simpa using this
/-! ### The document's -/
def lowS (b : List Int) : Nat → Int
  | 0 => 0
  | i + 1 => lowS b i + gI b i % 128 * 128 ^ i
theorem lowS_in (b : List Int) : ∀ i, 0 ≤ lowS b i ∧ lowS b i < 128 ^ i
  | 0 => by simp [lowS]
  | i + 1 => by
    obtain ⟨h1, h2⟩ := lowS_in b i
    have hp : (0 : Int) ≤ 128 ^ i := by omega
    have hq2 : gI b i % 128 * 128 ^ i ≤ 127 * 128 ^ i := Int.mul_le_mul_of_nonneg_right (by omega) hp
    have hq3 : 0 ≤ gI b i % 128 * 128 ^ i := Int.mul_nonneg (by omega) hp
    simp only [lowS]
    rw [Int.pow_succ]
    omega
theorem gv_low (b : List Int) : ∀ i, i ≤ b.length → i ≤ 10 → (∀ j, j < i → 128 ≤ gI b j) → gv (b.drop i) i (lowS b i) = gv b 0 0
  | 0, _, _, _ => rfl
  | i + 1, hi, h10, hJ => by
    have ih := gv_low b i (by omega) (by omega) fun j hj => hJ j (by omega)
    have hib : i < b.length := by omega
    have h128 := hJ i (by omega)
    rw [List.drop_eq_getElem_cons hib, ← gI_get _ _ hib] at ih
    rw [← ih]
    have hne : ¬ i = 10 := by omega
    simp [gv, hne, h128, lowS]
def hv (b : List Int) (n : Nat) : Nat → Int
  | 0 => 0
  | k + 1 => hv b n k * 128 + gI b (n - k) % 128
theorem hv_low (b : List Int) (n : Nat) : ∀ k, k ≤ n + 1 → hv b n k * 128 ^ (n + 1 - k) + lowS b (n + 1 - k) = lowS b (n + 1)
  | 0, _ => by simp [hv]
  | k + 1, hk => by
    have ih := hv_low b n k (by omega)
    rw [← ih, show n + 1 - k = (n - k) + 1 from by omega, show n + 1 - (k + 1) = n - k from by omega]
    simp only [hv, lowS]
    rw [Int.pow_succ, Int.add_mul, Int.mul_assoc (hv b n k), Int.mul_comm 128 (128 ^ (n - k))]
    omega
theorem hv_nonneg (b : List Int) (n : Nat) : ∀ k, 0 ≤ hv b n k
  | 0 => by simp [hv]
  | k + 1 => by
    have := hv_nonneg b n k
    simp only [hv]
    omega
theorem hv_le (b : List Int) (n k : Nat) (hk : k ≤ n + 1) : hv b n k ≤ lowS b (n + 1) := by
  have h1 := hv_low b n k hk
  have h2 := (lowS_in b (n + 1 - k)).1
  have h3 := hv_nonneg b n k
  have h4 : (1 : Int) ≤ 128 ^ (n + 1 - k) := by
    rw [pow128]
    have := Nat.one_le_two_pow (n := 7 * (n + 1 - k))
    omega
  have h5 : hv b n k * 1 ≤ hv b n k * 128 ^ (n + 1 - k) := Int.mul_le_mul_of_nonneg_left h4 h3
  omega
/-- What the document's Get tells. -/
def rgetV : Option (Int × Nat) → AV
  | some (u, n) => .tup [.int .u64 u, .int .i64 n]
  | none => .tup [.int .u64 0, .int .i64 0]
theorem rget_ev (b : List Int) (hb : okB b) (hl : b.length ≤ 1000000) : cvF tab 66 [rB b] = some (rgetV (gv b 0 0)) := by
  refine cvFA_R (mf := Mf.f66) rfl rfl (by kernel_rfl) ?_
  simp only [Mf.f66]
  simp [beqI, bneI, mm_min2, mm_max2, mm_min3, mm_max3, startE, lkE, lkX, lkE_rest, sx, substE, opVA, objs0, List.replicate, XA_seq, XA_region, XOA_go, goE_someA, opV, ev, putA, layAll, XOA_nil, XA_skip_seq, XA_skip_nil, XOA_gd, goG_tA, goG_uA, binV, bi_add, bi_sub, bi_mul, bi_quo, bi_rem, bi_eql, bi_neq, bi_lss, bi_leq, bi_gtr, bi_geq, bi_shl, bi_shr, bi_and, bi_or, bi_xor, unV, XA_ret_nil, XA_ret_cons, endFA_r, endFA_n, endTA_r, endTA_n, endRA_r, endRA_n, fltR, resultsA, resAs, resA, XA_block, XA_cond, pickX_t, pickX_f, pickX_b, XA_skip_blk, XA_skip_lp, XA_exit_seq, XA_exit_lp, XA_exit_blk, XA_exit_nil, load1, Ev.loadCells, objCells, bodyCells, setCells, AV.flat, AV.flat1, backR, backV, backCell, mapO, AV.cells, AV.atom, AV.tree, fillV, repeatL, treeCell, freezeAll, eqCells, callV_T, callV_F, passN, passV, passCell, srcCells, sliceBounds, hiB, loB, thenQ_nA, thenQ_xA, thenQ_rA, runK_nA, runK_xA, runK_rA, wrap_i64, wrap_u64, wrap_u32, wrap_u8, wrap_u16, rB]
  refine XA_for (fun n => ⟨[(0, .ro b.length (b.map (.int .u8))), (4, .int .i64 n)], []⟩)
    (fun n => ∀ j, j < n → 128 ≤ gI b j) b.length 0 (Nat.zero_le _) (by simp [AV.atom, normA, lkE, fixObjs, fixBody, fixV, fixCell]) (fun j hj => by omega) ?_ ?_
  · intro n _ hn hJ
    have hn' : (n : Int) < b.length := by omega
    have hn2 : ¬ (b.length : Int) ≤ (n : Int) := by omega
    have hc := hb _ (List.getElem_mem hn)
    unfold byte at hc
    have hix := idxB b n hn
    have hws := wrap_succ n b.length hn (by omega)
    rw [← gI_get _ _ hn] at hc hix
    by_cases h127 : 127 < gI b n
    · have hJ2 : ∀ j, j < n + 1 → 128 ≤ gI b j := fun j hj => by
        by_cases e : j = n
        · subst e; omega
        · exact hJ j (by omega)
      simp [beqI, bneI, mm_min2, mm_max2, mm_min3, mm_max3, startE, lkE, lkX, lkE_rest, sx, substE, opVA, objs0, List.replicate, XA_seq, XA_region, XOA_go, goE_someA, opV, ev, putA, layAll, XOA_nil, XA_skip_seq, XA_skip_nil, XOA_gd, goG_tA, goG_uA, binV, bi_add, bi_sub, bi_mul, bi_quo, bi_rem, bi_eql, bi_neq, bi_lss, bi_leq, bi_gtr, bi_geq, bi_shl, bi_shr, bi_and, bi_or, bi_xor, unV, XA_ret_nil, XA_ret_cons, endFA_r, endFA_n, endTA_r, endTA_n, endRA_r, endRA_n, fltR, resultsA, resAs, resA, XA_block, XA_cond, pickX_t, pickX_f, pickX_b, XA_skip_blk, XA_skip_lp, XA_exit_seq, XA_exit_lp, XA_exit_blk, XA_exit_nil, load1, Ev.loadCells, objCells, bodyCells, setCells, AV.flat, AV.flat1, backR, backV, backCell, mapO, AV.cells, AV.atom, AV.tree, fillV, repeatL, treeCell, freezeAll, eqCells, callV_T, callV_F, passN, passV, passCell, srcCells, sliceBounds, hiB, loB, thenQ_nA, thenQ_xA, thenQ_rA, runK_nA, runK_xA, runK_rA, wrap_i64, wrap_u64, wrap_u32, wrap_u8, wrap_u16, AV.atom, normA, lkE, fixObjs, fixBody, fixV, fixCell, hn', hix, h127, hws]
      exact hJ2
    · by_cases h9 : 9 < n
      · have h9' : (9 : Int) < (n : Int) := by omega
        have hg : gv b 0 0 = none := by
          rw [← gv_low b 10 (by omega) (by omega) fun j hj => hJ j (by omega), gv_ten]
        rw [hg]
        simp [beqI, bneI, mm_min2, mm_max2, mm_min3, mm_max3, startE, lkE, lkX, lkE_rest, sx, substE, opVA, objs0, List.replicate, XA_seq, XA_region, XOA_go, goE_someA, opV, ev, putA, layAll, XOA_nil, XA_skip_seq, XA_skip_nil, XOA_gd, goG_tA, goG_uA, binV, bi_add, bi_sub, bi_mul, bi_quo, bi_rem, bi_eql, bi_neq, bi_lss, bi_leq, bi_gtr, bi_geq, bi_shl, bi_shr, bi_and, bi_or, bi_xor, unV, XA_ret_nil, XA_ret_cons, endFA_r, endFA_n, endTA_r, endTA_n, endRA_r, endRA_n, fltR, resultsA, resAs, resA, XA_block, XA_cond, pickX_t, pickX_f, pickX_b, XA_skip_blk, XA_skip_lp, XA_exit_seq, XA_exit_lp, XA_exit_blk, XA_exit_nil, load1, Ev.loadCells, objCells, bodyCells, setCells, AV.flat, AV.flat1, backR, backV, backCell, mapO, AV.cells, AV.atom, AV.tree, fillV, repeatL, treeCell, freezeAll, eqCells, callV_T, callV_F, passN, passV, passCell, srcCells, sliceBounds, hiB, loB, thenQ_nA, thenQ_xA, thenQ_rA, runK_nA, runK_xA, runK_rA, wrap_i64, wrap_u64, wrap_u32, wrap_u8, wrap_u16, AV.atom, normA, lkE, fixObjs, fixBody, fixV, fixCell, hn', hn2, hix, h127, h9', h9, rgetV]
      · have h9' : ¬ (9 : Int) < (n : Int) := by omega
        have hlow := gv_low b n (by omega) (by omega) hJ
        rw [List.drop_eq_getElem_cons hn, ← gI_get _ _ hn] at hlow
        have hne : ¬ n = 10 := by omega
        have h128 : ¬ 128 ≤ gI b n := by omega
        simp only [gv, if_neg hne, if_neg h128] at hlow
        by_cases cb : (n = 9 ∧ 1 < gI b n) ∨ (0 < n ∧ gI b n = 0)
        · rw [if_pos cb] at hlow
          rw [← hlow]
          rcases cb with ⟨c9, c1⟩ | ⟨c0, cz⟩
          · have c9' : decide ((n : Int) = 9) = true := by simp; omega
            have c0' : (0 : Int) < (n : Int) := by omega
            have c0 : 0 < n := by omega
            have cz : ¬ gI b n = 0 := by omega
            simp [beqI, bneI, mm_min2, mm_max2, mm_min3, mm_max3, startE, lkE, lkX, lkE_rest, sx, substE, opVA, objs0, List.replicate, XA_seq, XA_region, XOA_go, goE_someA, opV, ev, putA, layAll, XOA_nil, XA_skip_seq, XA_skip_nil, XOA_gd, goG_tA, goG_uA, binV, bi_add, bi_sub, bi_mul, bi_quo, bi_rem, bi_eql, bi_neq, bi_lss, bi_leq, bi_gtr, bi_geq, bi_shl, bi_shr, bi_and, bi_or, bi_xor, unV, XA_ret_nil, XA_ret_cons, endFA_r, endFA_n, endTA_r, endTA_n, endRA_r, endRA_n, fltR, resultsA, resAs, resA, XA_block, XA_cond, pickX_t, pickX_f, pickX_b, XA_skip_blk, XA_skip_lp, XA_exit_seq, XA_exit_lp, XA_exit_blk, XA_exit_nil, load1, Ev.loadCells, objCells, bodyCells, setCells, AV.flat, AV.flat1, backR, backV, backCell, mapO, AV.cells, AV.atom, AV.tree, fillV, repeatL, treeCell, freezeAll, eqCells, callV_T, callV_F, passN, passV, passCell, srcCells, sliceBounds, hiB, loB, thenQ_nA, thenQ_xA, thenQ_rA, runK_nA, runK_xA, runK_rA, wrap_i64, wrap_u64, wrap_u32, wrap_u8, wrap_u16, AV.atom, normA, lkE, fixObjs, fixBody, fixV, fixCell, hn', hn2, hix, h127, h9', h9, c9', c0', c0, cz, c1, rgetV]
          · have c0' : (0 : Int) < (n : Int) := by omega
            simp [beqI, bneI, mm_min2, mm_max2, mm_min3, mm_max3, startE, lkE, lkX, lkE_rest, sx, substE, opVA, objs0, List.replicate, XA_seq, XA_region, XOA_go, goE_someA, opV, ev, putA, layAll, XOA_nil, XA_skip_seq, XA_skip_nil, XOA_gd, goG_tA, goG_uA, binV, bi_add, bi_sub, bi_mul, bi_quo, bi_rem, bi_eql, bi_neq, bi_lss, bi_leq, bi_gtr, bi_geq, bi_shl, bi_shr, bi_and, bi_or, bi_xor, unV, XA_ret_nil, XA_ret_cons, endFA_r, endFA_n, endTA_r, endTA_n, endRA_r, endRA_n, fltR, resultsA, resAs, resA, XA_block, XA_cond, pickX_t, pickX_f, pickX_b, XA_skip_blk, XA_skip_lp, XA_exit_seq, XA_exit_lp, XA_exit_blk, XA_exit_nil, load1, Ev.loadCells, objCells, bodyCells, setCells, AV.flat, AV.flat1, backR, backV, backCell, mapO, AV.cells, AV.atom, AV.tree, fillV, repeatL, treeCell, freezeAll, eqCells, callV_T, callV_F, passN, passV, passCell, srcCells, sliceBounds, hiB, loB, thenQ_nA, thenQ_xA, thenQ_rA, runK_nA, runK_xA, runK_rA, wrap_i64, wrap_u64, wrap_u32, wrap_u8, wrap_u16, AV.atom, normA, lkE, fixObjs, fixBody, fixV, fixCell, hn', hn2, hix, h127, h9', h9, c0', c0, cz, rgetV]
        · rw [if_neg cb] at hlow
          have hval : lowS b n + gI b n * 128 ^ n = lowS b (n + 1) := by
            simp only [lowS]
            rw [show gI b n % 128 = gI b n from by omega]
          rw [hval] at hlow
          have hmax : lowS b (n + 1) < 18446744073709551616 := by
            by_cases c9 : n = 9
            · have c1 : ¬ 1 < gI b n := fun h => cb (.inl ⟨c9, h⟩)
              have h1 := (lowS_in b n).2
              rw [← hval]
              subst c9
              have h2 : gI b 9 * 128 ^ 9 ≤ 1 * 128 ^ 9 := Int.mul_le_mul_of_nonneg_right (by omega) (by omega)
              simp at h1 h2 ⊢
              omega
            · have h1 := (lowS_in b (n + 1)).2
              have h2 : (128 : Int) ^ (n + 1) ≤ 128 ^ 9 := by
                rw [pow128, pow128]
                exact Int.ofNat_le.2 (Nat.pow_le_pow_right (by omega) (by omega))
              simp at h2
              omega
          rw [← hlow]
          by_cases c0 : 0 < n
          · have c0' : (0 : Int) < (n : Int) := by omega
            have cz : ¬ gI b n = 0 := fun h => cb (.inr ⟨c0, h⟩)
            by_cases c9 : n = 9
            · have c9' : decide ((n : Int) = 9) = true := by simp; omega
              have c1 : ¬ 1 < gI b n := fun h => cb (.inl ⟨c9, h⟩)
              simp [beqI, bneI, mm_min2, mm_max2, mm_min3, mm_max3, startE, lkE, lkX, lkE_rest, sx, substE, opVA, objs0, List.replicate, XA_seq, XA_region, XOA_go, goE_someA, opV, ev, putA, layAll, XOA_nil, XA_skip_seq, XA_skip_nil, XOA_gd, goG_tA, goG_uA, binV, bi_add, bi_sub, bi_mul, bi_quo, bi_rem, bi_eql, bi_neq, bi_lss, bi_leq, bi_gtr, bi_geq, bi_shl, bi_shr, bi_and, bi_or, bi_xor, unV, XA_ret_nil, XA_ret_cons, endFA_r, endFA_n, endTA_r, endTA_n, endRA_r, endRA_n, fltR, resultsA, resAs, resA, XA_block, XA_cond, pickX_t, pickX_f, pickX_b, XA_skip_blk, XA_skip_lp, XA_exit_seq, XA_exit_lp, XA_exit_blk, XA_exit_nil, load1, Ev.loadCells, objCells, bodyCells, setCells, AV.flat, AV.flat1, backR, backV, backCell, mapO, AV.cells, AV.atom, AV.tree, fillV, repeatL, treeCell, freezeAll, eqCells, callV_T, callV_F, passN, passV, passCell, srcCells, sliceBounds, hiB, loB, thenQ_nA, thenQ_xA, thenQ_rA, runK_nA, runK_xA, runK_rA, wrap_i64, wrap_u64, wrap_u32, wrap_u8, wrap_u16, AV.atom, normA, lkE, fixObjs, fixBody, fixV, fixCell, hn', hn2, hix, h127, h9', h9, c9', c0', c0, cz, c1]
              refine XA_for (fun k => ⟨[(0, .ro b.length (b.map (.int .u8))), (4, .int .i64 n), (5, .int .u64 (hv b n k)), (6, .int .i64 ((n : Int) - k))], []⟩)
                (fun _ => True) (n + 1) 0 (Nat.zero_le _) (by simp [AV.atom, normA, lkE, fixObjs, fixBody, fixV, fixCell, hv]) trivial ?_ ?_
              · intro k _ hk _
                obtain ⟨j, hj⟩ : ∃ j, n - k = j := ⟨_, rfl⟩
                have hjI : (n : Int) - (k : Int) = (j : Int) := by omega
                have hjb : j < b.length := by omega
                have hjb' : (j : Int) < b.length := by omega
                have hj0 : ¬ (j : Int) < 0 := by omega
                have hcj := hb _ (List.getElem_mem hjb)
                unfold byte at hcj
                have hij := idxB b j hjb
                rw [← gI_get _ _ hjb] at hcj hij
                have h0 := hv_nonneg b n k
                have h1 := hv_le b n (k + 1) (by omega)
                have h2 : hv b n (k + 1) = hv b n k * 128 + gI b j % 128 := by simp only [hv, hj]
                rw [h2] at h1 ⊢
                have t1 : (gI b j).tmod 128 = gI b j % 128 := Int.tmod_eq_emod_of_nonneg hcj.1
                have w1 : IntKind.u64.wrap (hv b n k * 128) = hv b n k * 128 := wrap_u64 (by omega) (by omega)
                have w2 : IntKind.u64.wrap (gI b j % 128) = gI b j % 128 := wrap_u64 (by omega) (by omega)
                have w3 : IntKind.u64.wrap (hv b n k * 128 + gI b j % 128) = hv b n k * 128 + gI b j % 128 := wrap_u64 (by omega) (by omega)
                have w4 : IntKind.i64.wrap ((j : Int) - 1) = (n : Int) - ((k : Int) + 1) := by rw [wrap_i64 (by omega) (by omega)]; omega
                simp [beqI, bneI, mm_min2, mm_max2, mm_min3, mm_max3, startE, lkE, lkX, lkE_rest, sx, substE, opVA, objs0, List.replicate, XA_seq, XA_region, XOA_go, goE_someA, opV, ev, putA, layAll, XOA_nil, XA_skip_seq, XA_skip_nil, XOA_gd, goG_tA, goG_uA, binV, bi_add, bi_sub, bi_mul, bi_quo, bi_rem, bi_eql, bi_neq, bi_lss, bi_leq, bi_gtr, bi_geq, bi_shl, bi_shr, bi_and, bi_or, bi_xor, unV, XA_ret_nil, XA_ret_cons, endFA_r, endFA_n, endTA_r, endTA_n, endRA_r, endRA_n, fltR, resultsA, resAs, resA, XA_block, XA_cond, pickX_t, pickX_f, pickX_b, XA_skip_blk, XA_skip_lp, XA_exit_seq, XA_exit_lp, XA_exit_blk, XA_exit_nil, load1, Ev.loadCells, objCells, bodyCells, setCells, AV.flat, AV.flat1, backR, backV, backCell, mapO, AV.cells, AV.atom, AV.tree, fillV, repeatL, treeCell, freezeAll, eqCells, callV_T, callV_F, passN, passV, passCell, srcCells, sliceBounds, hiB, loB, thenQ_nA, thenQ_xA, thenQ_rA, runK_nA, runK_xA, runK_rA, wrap_i64, wrap_u64, wrap_u32, wrap_u8, wrap_u16, AV.atom, normA, lkE, fixObjs, fixBody, fixV, fixCell, hjI, hj0, hjb', hij, t1, w1, w2, w3, w4]
              · intro _
                have hneg : (n : Int) - ((n : Int) + 1) = -1 := by omega
                have hfin : hv b n (n + 1) = lowS b (n + 1) := by
                  have := hv_low b n (n + 1) (by omega)
                  simpa [lowS] using this
                have w5 : IntKind.i64.wrap ((n : Int) + 1) = (n : Int) + 1 := wrap_i64 (by omega) (by omega)
                simp [beqI, bneI, mm_min2, mm_max2, mm_min3, mm_max3, startE, lkE, lkX, lkE_rest, sx, substE, opVA, objs0, List.replicate, XA_seq, XA_region, XOA_go, goE_someA, opV, ev, putA, layAll, XOA_nil, XA_skip_seq, XA_skip_nil, XOA_gd, goG_tA, goG_uA, binV, bi_add, bi_sub, bi_mul, bi_quo, bi_rem, bi_eql, bi_neq, bi_lss, bi_leq, bi_gtr, bi_geq, bi_shl, bi_shr, bi_and, bi_or, bi_xor, unV, XA_ret_nil, XA_ret_cons, endFA_r, endFA_n, endTA_r, endTA_n, endRA_r, endRA_n, fltR, resultsA, resAs, resA, XA_block, XA_cond, pickX_t, pickX_f, pickX_b, XA_skip_blk, XA_skip_lp, XA_exit_seq, XA_exit_lp, XA_exit_blk, XA_exit_nil, load1, Ev.loadCells, objCells, bodyCells, setCells, AV.flat, AV.flat1, backR, backV, backCell, mapO, AV.cells, AV.atom, AV.tree, fillV, repeatL, treeCell, freezeAll, eqCells, callV_T, callV_F, passN, passV, passCell, srcCells, sliceBounds, hiB, loB, thenQ_nA, thenQ_xA, thenQ_rA, runK_nA, runK_xA, runK_rA, wrap_i64, wrap_u64, wrap_u32, wrap_u8, wrap_u16, AV.atom, normA, lkE, fixObjs, fixBody, fixV, fixCell, hneg, hfin, w5, rgetV]
            · have c9' : ¬ (n : Int) = 9 := by omega
              simp [beqI, bneI, mm_min2, mm_max2, mm_min3, mm_max3, startE, lkE, lkX, lkE_rest, sx, substE, opVA, objs0, List.replicate, XA_seq, XA_region, XOA_go, goE_someA, opV, ev, putA, layAll, XOA_nil, XA_skip_seq, XA_skip_nil, XOA_gd, goG_tA, goG_uA, binV, bi_add, bi_sub, bi_mul, bi_quo, bi_rem, bi_eql, bi_neq, bi_lss, bi_leq, bi_gtr, bi_geq, bi_shl, bi_shr, bi_and, bi_or, bi_xor, unV, XA_ret_nil, XA_ret_cons, endFA_r, endFA_n, endTA_r, endTA_n, endRA_r, endRA_n, fltR, resultsA, resAs, resA, XA_block, XA_cond, pickX_t, pickX_f, pickX_b, XA_skip_blk, XA_skip_lp, XA_exit_seq, XA_exit_lp, XA_exit_blk, XA_exit_nil, load1, Ev.loadCells, objCells, bodyCells, setCells, AV.flat, AV.flat1, backR, backV, backCell, mapO, AV.cells, AV.atom, AV.tree, fillV, repeatL, treeCell, freezeAll, eqCells, callV_T, callV_F, passN, passV, passCell, srcCells, sliceBounds, hiB, loB, thenQ_nA, thenQ_xA, thenQ_rA, runK_nA, runK_xA, runK_rA, wrap_i64, wrap_u64, wrap_u32, wrap_u8, wrap_u16, AV.atom, normA, lkE, fixObjs, fixBody, fixV, fixCell, hn', hn2, hix, h127, h9', h9, c9', c0', c0, cz]
              refine XA_for (fun k => ⟨[(0, .ro b.length (b.map (.int .u8))), (4, .int .i64 n), (5, .int .u64 (hv b n k)), (6, .int .i64 ((n : Int) - k))], []⟩)
                (fun _ => True) (n + 1) 0 (Nat.zero_le _) (by simp [AV.atom, normA, lkE, fixObjs, fixBody, fixV, fixCell, hv]) trivial ?_ ?_
              · intro k _ hk _
                obtain ⟨j, hj⟩ : ∃ j, n - k = j := ⟨_, rfl⟩
                have hjI : (n : Int) - (k : Int) = (j : Int) := by omega
                have hjb : j < b.length := by omega
                have hjb' : (j : Int) < b.length := by omega
                have hj0 : ¬ (j : Int) < 0 := by omega
                have hcj := hb _ (List.getElem_mem hjb)
                unfold byte at hcj
                have hij := idxB b j hjb
                rw [← gI_get _ _ hjb] at hcj hij
                have h0 := hv_nonneg b n k
                have h1 := hv_le b n (k + 1) (by omega)
                have h2 : hv b n (k + 1) = hv b n k * 128 + gI b j % 128 := by simp only [hv, hj]
                rw [h2] at h1 ⊢
                have t1 : (gI b j).tmod 128 = gI b j % 128 := Int.tmod_eq_emod_of_nonneg hcj.1
                have w1 : IntKind.u64.wrap (hv b n k * 128) = hv b n k * 128 := wrap_u64 (by omega) (by omega)
                have w2 : IntKind.u64.wrap (gI b j % 128) = gI b j % 128 := wrap_u64 (by omega) (by omega)
                have w3 : IntKind.u64.wrap (hv b n k * 128 + gI b j % 128) = hv b n k * 128 + gI b j % 128 := wrap_u64 (by omega) (by omega)
                have w4 : IntKind.i64.wrap ((j : Int) - 1) = (n : Int) - ((k : Int) + 1) := by rw [wrap_i64 (by omega) (by omega)]; omega
                simp [beqI, bneI, mm_min2, mm_max2, mm_min3, mm_max3, startE, lkE, lkX, lkE_rest, sx, substE, opVA, objs0, List.replicate, XA_seq, XA_region, XOA_go, goE_someA, opV, ev, putA, layAll, XOA_nil, XA_skip_seq, XA_skip_nil, XOA_gd, goG_tA, goG_uA, binV, bi_add, bi_sub, bi_mul, bi_quo, bi_rem, bi_eql, bi_neq, bi_lss, bi_leq, bi_gtr, bi_geq, bi_shl, bi_shr, bi_and, bi_or, bi_xor, unV, XA_ret_nil, XA_ret_cons, endFA_r, endFA_n, endTA_r, endTA_n, endRA_r, endRA_n, fltR, resultsA, resAs, resA, XA_block, XA_cond, pickX_t, pickX_f, pickX_b, XA_skip_blk, XA_skip_lp, XA_exit_seq, XA_exit_lp, XA_exit_blk, XA_exit_nil, load1, Ev.loadCells, objCells, bodyCells, setCells, AV.flat, AV.flat1, backR, backV, backCell, mapO, AV.cells, AV.atom, AV.tree, fillV, repeatL, treeCell, freezeAll, eqCells, callV_T, callV_F, passN, passV, passCell, srcCells, sliceBounds, hiB, loB, thenQ_nA, thenQ_xA, thenQ_rA, runK_nA, runK_xA, runK_rA, wrap_i64, wrap_u64, wrap_u32, wrap_u8, wrap_u16, AV.atom, normA, lkE, fixObjs, fixBody, fixV, fixCell, hjI, hj0, hjb', hij, t1, w1, w2, w3, w4]
              · intro _
                have hneg : (n : Int) - ((n : Int) + 1) = -1 := by omega
                have hfin : hv b n (n + 1) = lowS b (n + 1) := by
                  have := hv_low b n (n + 1) (by omega)
                  simpa [lowS] using this
                have w5 : IntKind.i64.wrap ((n : Int) + 1) = (n : Int) + 1 := wrap_i64 (by omega) (by omega)
                simp [beqI, bneI, mm_min2, mm_max2, mm_min3, mm_max3, startE, lkE, lkX, lkE_rest, sx, substE, opVA, objs0, List.replicate, XA_seq, XA_region, XOA_go, goE_someA, opV, ev, putA, layAll, XOA_nil, XA_skip_seq, XA_skip_nil, XOA_gd, goG_tA, goG_uA, binV, bi_add, bi_sub, bi_mul, bi_quo, bi_rem, bi_eql, bi_neq, bi_lss, bi_leq, bi_gtr, bi_geq, bi_shl, bi_shr, bi_and, bi_or, bi_xor, unV, XA_ret_nil, XA_ret_cons, endFA_r, endFA_n, endTA_r, endTA_n, endRA_r, endRA_n, fltR, resultsA, resAs, resA, XA_block, XA_cond, pickX_t, pickX_f, pickX_b, XA_skip_blk, XA_skip_lp, XA_exit_seq, XA_exit_lp, XA_exit_blk, XA_exit_nil, load1, Ev.loadCells, objCells, bodyCells, setCells, AV.flat, AV.flat1, backR, backV, backCell, mapO, AV.cells, AV.atom, AV.tree, fillV, repeatL, treeCell, freezeAll, eqCells, callV_T, callV_F, passN, passV, passCell, srcCells, sliceBounds, hiB, loB, thenQ_nA, thenQ_xA, thenQ_rA, runK_nA, runK_xA, runK_rA, wrap_i64, wrap_u64, wrap_u32, wrap_u8, wrap_u16, AV.atom, normA, lkE, fixObjs, fixBody, fixV, fixCell, hneg, hfin, w5, rgetV]
          · have c0' : ¬ (0 : Int) < (n : Int) := by omega
            have c9' : ¬ (n : Int) = 9 := by omega
            simp [beqI, bneI, mm_min2, mm_max2, mm_min3, mm_max3, startE, lkE, lkX, lkE_rest, sx, substE, opVA, objs0, List.replicate, XA_seq, XA_region, XOA_go, goE_someA, opV, ev, putA, layAll, XOA_nil, XA_skip_seq, XA_skip_nil, XOA_gd, goG_tA, goG_uA, binV, bi_add, bi_sub, bi_mul, bi_quo, bi_rem, bi_eql, bi_neq, bi_lss, bi_leq, bi_gtr, bi_geq, bi_shl, bi_shr, bi_and, bi_or, bi_xor, unV, XA_ret_nil, XA_ret_cons, endFA_r, endFA_n, endTA_r, endTA_n, endRA_r, endRA_n, fltR, resultsA, resAs, resA, XA_block, XA_cond, pickX_t, pickX_f, pickX_b, XA_skip_blk, XA_skip_lp, XA_exit_seq, XA_exit_lp, XA_exit_blk, XA_exit_nil, load1, Ev.loadCells, objCells, bodyCells, setCells, AV.flat, AV.flat1, backR, backV, backCell, mapO, AV.cells, AV.atom, AV.tree, fillV, repeatL, treeCell, freezeAll, eqCells, callV_T, callV_F, passN, passV, passCell, srcCells, sliceBounds, hiB, loB, thenQ_nA, thenQ_xA, thenQ_rA, runK_nA, runK_xA, runK_rA, wrap_i64, wrap_u64, wrap_u32, wrap_u8, wrap_u16, AV.atom, normA, lkE, fixObjs, fixBody, fixV, fixCell, hn', hn2, hix, h127, h9', h9, c9', c0', c0]
            refine XA_for (fun k => ⟨[(0, .ro b.length (b.map (.int .u8))), (4, .int .i64 n), (5, .int .u64 (hv b n k)), (6, .int .i64 ((n : Int) - k))], []⟩)
              (fun _ => True) (n + 1) 0 (Nat.zero_le _) (by simp [AV.atom, normA, lkE, fixObjs, fixBody, fixV, fixCell, hv]) trivial ?_ ?_
            · intro k _ hk _
              obtain ⟨j, hj⟩ : ∃ j, n - k = j := ⟨_, rfl⟩
              have hjI : (n : Int) - (k : Int) = (j : Int) := by omega
              have hjb : j < b.length := by omega
              have hjb' : (j : Int) < b.length := by omega
              have hj0 : ¬ (j : Int) < 0 := by omega
              have hcj := hb _ (List.getElem_mem hjb)
              unfold byte at hcj
              have hij := idxB b j hjb
              rw [← gI_get _ _ hjb] at hcj hij
              have h0 := hv_nonneg b n k
              have h1 := hv_le b n (k + 1) (by omega)
              have h2 : hv b n (k + 1) = hv b n k * 128 + gI b j % 128 := by simp only [hv, hj]
              rw [h2] at h1 ⊢
              have t1 : (gI b j).tmod 128 = gI b j % 128 := Int.tmod_eq_emod_of_nonneg hcj.1
              have w1 : IntKind.u64.wrap (hv b n k * 128) = hv b n k * 128 := wrap_u64 (by omega) (by omega)
              have w2 : IntKind.u64.wrap (gI b j % 128) = gI b j % 128 := wrap_u64 (by omega) (by omega)
              have w3 : IntKind.u64.wrap (hv b n k * 128 + gI b j % 128) = hv b n k * 128 + gI b j % 128 := wrap_u64 (by omega) (by omega)
              have w4 : IntKind.i64.wrap ((j : Int) - 1) = (n : Int) - ((k : Int) + 1) := by rw [wrap_i64 (by omega) (by omega)]; omega
              simp [beqI, bneI, mm_min2, mm_max2, mm_min3, mm_max3, startE, lkE, lkX, lkE_rest, sx, substE, opVA, objs0, List.replicate, XA_seq, XA_region, XOA_go, goE_someA, opV, ev, putA, layAll, XOA_nil, XA_skip_seq, XA_skip_nil, XOA_gd, goG_tA, goG_uA, binV, bi_add, bi_sub, bi_mul, bi_quo, bi_rem, bi_eql, bi_neq, bi_lss, bi_leq, bi_gtr, bi_geq, bi_shl, bi_shr, bi_and, bi_or, bi_xor, unV, XA_ret_nil, XA_ret_cons, endFA_r, endFA_n, endTA_r, endTA_n, endRA_r, endRA_n, fltR, resultsA, resAs, resA, XA_block, XA_cond, pickX_t, pickX_f, pickX_b, XA_skip_blk, XA_skip_lp, XA_exit_seq, XA_exit_lp, XA_exit_blk, XA_exit_nil, load1, Ev.loadCells, objCells, bodyCells, setCells, AV.flat, AV.flat1, backR, backV, backCell, mapO, AV.cells, AV.atom, AV.tree, fillV, repeatL, treeCell, freezeAll, eqCells, callV_T, callV_F, passN, passV, passCell, srcCells, sliceBounds, hiB, loB, thenQ_nA, thenQ_xA, thenQ_rA, runK_nA, runK_xA, runK_rA, wrap_i64, wrap_u64, wrap_u32, wrap_u8, wrap_u16, AV.atom, normA, lkE, fixObjs, fixBody, fixV, fixCell, hjI, hj0, hjb', hij, t1, w1, w2, w3, w4]
            · intro _
              have hneg : (n : Int) - ((n : Int) + 1) = -1 := by omega
              have hfin : hv b n (n + 1) = lowS b (n + 1) := by
                have := hv_low b n (n + 1) (by omega)
                simpa [lowS] using this
              have w5 : IntKind.i64.wrap ((n : Int) + 1) = (n : Int) + 1 := wrap_i64 (by omega) (by omega)
              simp [beqI, bneI, mm_min2, mm_max2, mm_min3, mm_max3, startE, lkE, lkX, lkE_rest, sx, substE, opVA, objs0, List.replicate, XA_seq, XA_region, XOA_go, goE_someA, opV, ev, putA, layAll, XOA_nil, XA_skip_seq, XA_skip_nil, XOA_gd, goG_tA, goG_uA, binV, bi_add, bi_sub, bi_mul, bi_quo, bi_rem, bi_eql, bi_neq, bi_lss, bi_leq, bi_gtr, bi_geq, bi_shl, bi_shr, bi_and, bi_or, bi_xor, unV, XA_ret_nil, XA_ret_cons, endFA_r, endFA_n, endTA_r, endTA_n, endRA_r, endRA_n, fltR, resultsA, resAs, resA, XA_block, XA_cond, pickX_t, pickX_f, pickX_b, XA_skip_blk, XA_skip_lp, XA_exit_seq, XA_exit_lp, XA_exit_blk, XA_exit_nil, load1, Ev.loadCells, objCells, bodyCells, setCells, AV.flat, AV.flat1, backR, backV, backCell, mapO, AV.cells, AV.atom, AV.tree, fillV, repeatL, treeCell, freezeAll, eqCells, callV_T, callV_F, passN, passV, passCell, srcCells, sliceBounds, hiB, loB, thenQ_nA, thenQ_xA, thenQ_rA, runK_nA, runK_xA, runK_rA, wrap_i64, wrap_u64, wrap_u32, wrap_u8, wrap_u16, AV.atom, normA, lkE, fixObjs, fixBody, fixV, fixCell, hneg, hfin, w5, rgetV]
  · intro hJ
    have hg : gv b 0 0 = none := by
      by_cases h10 : b.length ≤ 10
      · rw [← gv_low b b.length (by omega) h10 hJ, List.drop_length]
        rfl
      · rw [← gv_low b 10 (by omega) (by omega) fun j hj => hJ j (by omega), gv_ten]
    rw [hg]
    simp [beqI, bneI, mm_min2, mm_max2, mm_min3, mm_max3, startE, lkE, lkX, lkE_rest, sx, substE, opVA, objs0, List.replicate, XA_seq, XA_region, XOA_go, goE_someA, opV, ev, putA, layAll, XOA_nil, XA_skip_seq, XA_skip_nil, XOA_gd, goG_tA, goG_uA, binV, bi_add, bi_sub, bi_mul, bi_quo, bi_rem, bi_eql, bi_neq, bi_lss, bi_leq, bi_gtr, bi_geq, bi_shl, bi_shr, bi_and, bi_or, bi_xor, unV, XA_ret_nil, XA_ret_cons, endFA_r, endFA_n, endTA_r, endTA_n, endRA_r, endRA_n, fltR, resultsA, resAs, resA, XA_block, XA_cond, pickX_t, pickX_f, pickX_b, XA_skip_blk, XA_skip_lp, XA_exit_seq, XA_exit_lp, XA_exit_blk, XA_exit_nil, load1, Ev.loadCells, objCells, bodyCells, setCells, AV.flat, AV.flat1, backR, backV, backCell, mapO, AV.cells, AV.atom, AV.tree, fillV, repeatL, treeCell, freezeAll, eqCells, callV_T, callV_F, passN, passV, passCell, srcCells, sliceBounds, hiB, loB, thenQ_nA, thenQ_xA, thenQ_rA, runK_nA, runK_xA, runK_rA, wrap_i64, wrap_u64, wrap_u32, wrap_u8, wrap_u16, AV.atom, normA, lkE, fixObjs, fixBody, fixV, fixCell, rgetV]
end Go.Proofs.Ytambpbcdnhekbaa
