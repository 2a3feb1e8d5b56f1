/- The catalog of bytes; the document's. -/
import Derived.Test.YtfodjphcngidbaaSchT
import Derived.Test.YtfodjphcngidbaaUntil
set_option linter.unusedSimpArgs false
set_option linter.unusedVariables false
set_option maxHeartbeats 8000000
set_option maxRecDepth 100000
namespace Go.Proofs.Ytfodjphcngidbaa
open Go.Ev
def numR (most : Nat) (s : RS) : Int × RS := match gv s.1 0 0 with
  | some (u, n) => if (40 : Int) < u then (0, s.1, true) else (u, s.1.drop n, s.2)
  | none => (0, s.1, true)
def stR : Bool → Bool := fun b => b
theorem numR_P : NumP numR fun _ => 40 := by
  refine ⟨?_, ?_, fun _ => Nat.le_refl _⟩
  · intro most b bad h
    unfold numR at h ⊢
    cases e : gv b 0 0 with
    | none => simp [e] at h
    | some p =>
      obtain ⟨u, n⟩ := p
      simp only [e] at h ⊢
      by_cases c : (40 : Int) < u
      · rw [if_pos c] at h; simp at h
      · rw [if_neg c] at h
        simp only at h
        rw [if_neg c, h]
        exact ⟨rfl, u, n, rfl, by omega, rfl⟩
  · intro most b u n hm h hu
    unfold numR
    simp only [h]
    rw [if_neg (by omega)]
theorem numR_I : NumI numR := by
  constructor
  · intro most s hs
    unfold numR
    split
    · split
      · exact hs.same _
      · exact hs.drop _ _
    · exact hs.same _
  · intro most s hs hm
    unfold numR
    split
    · rename_i u n e
      have := gv_nn hs.1 e
      split
      · simp
      · simp only; omega
    · simp
theorem numr_ev (s : RS) (most : Nat) (hs : okS s) : cfT tab 36 [.ptr 0 0 0] [vR s] = some (.int .i64 (numR most s).1, [vR (numR most s).2]) := by
  refine cfTA_R (mf := Mf.f36) rfl rfl (by kernel_rfl) ?_
  simp only [Mf.f36]
  obtain ⟨b, bad⟩ := s
  have e := rget_ev b hs.1 (by have := hs.2; simp only at this; omega)
  unfold numR
  cases h : gv b 0 0 with
  | none =>
    rw [h] at e
    simp only [rgetV, rB] at e
    simp [beqI, bneI, mm_min2, mm_max2, mm_min3, mm_max3, startE, lkE, lkX, lkE_rest, sx, substE, opVA, objs0, List.replicate, XA_seq, XA_region, XOA_go, goE_someA, opV, ev, putA, layAll, XOA_nil, XA_skip_seq, XA_skip_nil, XOA_gd, goG_tA, goG_uA, binV, bi_add, bi_sub, bi_mul, bi_quo, bi_rem, bi_eql, bi_neq, bi_lss, bi_leq, bi_gtr, bi_geq, bi_shl, bi_shr, bi_and, bi_or, bi_xor, unV, XA_ret_nil, XA_ret_cons, endFA_r, endFA_n, endTA_r, endTA_n, endRA_r, endRA_n, fltR, resultsA, resAs, resA, XA_block, XA_cond, pickX_t, pickX_f, pickX_b, XA_skip_blk, XA_skip_lp, XA_exit_seq, XA_exit_lp, XA_exit_blk, XA_exit_nil, load1, Ev.loadCells, objCells, bodyCells, setCells, AV.flat, AV.flat1, backR, backV, backCell, mapO, AV.cells, AV.atom, AV.tree, fillV, repeatL, treeCell, freezeAll, eqCells, callV_T, callV_F, passV, passCell, srcCells, sliceBounds, hiB, loB, thenQ_nA, thenQ_xA, thenQ_rA, runK_nA, runK_xA, runK_rA, wrap_i64, wrap_u64, wrap_u32, wrap_u8, wrap_u16, vR, e]
  | some p =>
    obtain ⟨u, n⟩ := p
    rw [h] at e
    simp only [rgetV] at e
    have hg := gv_nn hs.1 h
    have hg1 := (gv_le b 0 0 u n h).2
    simp only at hg
    have hn' : (n : Int) ≤ (b.length : Int) := by omega
    have hn0 : (0 : Int) ≤ (n : Int) := by omega
    have hnz : ¬ n = 0 := by omega
    have hnz' : ¬ (n : Int) = 0 := by omega
    have hr := rB_drop b n hg.2
    simp only [rB] at e hr
    by_cases c : (40 : Int) < u
    · simp [beqI, bneI, mm_min2, mm_max2, mm_min3, mm_max3, startE, lkE, lkX, lkE_rest, sx, substE, opVA, objs0, List.replicate, XA_seq, XA_region, XOA_go, goE_someA, opV, ev, putA, layAll, XOA_nil, XA_skip_seq, XA_skip_nil, XOA_gd, goG_tA, goG_uA, binV, bi_add, bi_sub, bi_mul, bi_quo, bi_rem, bi_eql, bi_neq, bi_lss, bi_leq, bi_gtr, bi_geq, bi_shl, bi_shr, bi_and, bi_or, bi_xor, unV, XA_ret_nil, XA_ret_cons, endFA_r, endFA_n, endTA_r, endTA_n, endRA_r, endRA_n, fltR, resultsA, resAs, resA, XA_block, XA_cond, pickX_t, pickX_f, pickX_b, XA_skip_blk, XA_skip_lp, XA_exit_seq, XA_exit_lp, XA_exit_blk, XA_exit_nil, load1, Ev.loadCells, objCells, bodyCells, setCells, AV.flat, AV.flat1, backR, backV, backCell, mapO, AV.cells, AV.atom, AV.tree, fillV, repeatL, treeCell, freezeAll, eqCells, callV_T, callV_F, passV, passCell, srcCells, sliceBounds, hiB, loB, thenQ_nA, thenQ_xA, thenQ_rA, runK_nA, runK_xA, runK_rA, wrap_i64, wrap_u64, wrap_u32, wrap_u8, wrap_u16, vR, e, c, hnz]
    · have hw : IntKind.i64.wrap u = u := wrap_i64 (by omega) (by omega)
      simp [beqI, bneI, mm_min2, mm_max2, mm_min3, mm_max3, startE, lkE, lkX, lkE_rest, sx, substE, opVA, objs0, List.replicate, XA_seq, XA_region, XOA_go, goE_someA, opV, ev, putA, layAll, XOA_nil, XA_skip_seq, XA_skip_nil, XOA_gd, goG_tA, goG_uA, binV, bi_add, bi_sub, bi_mul, bi_quo, bi_rem, bi_eql, bi_neq, bi_lss, bi_leq, bi_gtr, bi_geq, bi_shl, bi_shr, bi_and, bi_or, bi_xor, unV, XA_ret_nil, XA_ret_cons, endFA_r, endFA_n, endTA_r, endTA_n, endRA_r, endRA_n, fltR, resultsA, resAs, resA, XA_block, XA_cond, pickX_t, pickX_f, pickX_b, XA_skip_blk, XA_skip_lp, XA_exit_seq, XA_exit_lp, XA_exit_blk, XA_exit_nil, load1, Ev.loadCells, objCells, bodyCells, setCells, AV.flat, AV.flat1, backR, backV, backCell, mapO, AV.cells, AV.atom, AV.tree, fillV, repeatL, treeCell, freezeAll, eqCells, callV_T, callV_F, passV, passCell, srcCells, sliceBounds, hiB, loB, thenQ_nA, thenQ_xA, thenQ_rA, runK_nA, runK_xA, runK_rA, wrap_i64, wrap_u64, wrap_u32, wrap_u8, wrap_u16, vR, e, c, hw, hn', hn0, hr, hnz]
theorem rep_stuck {α : Type} {st : Bool → Bool} {f : α × RS → α × RS} {s : α × RS} {i : Nat} (h : st (rep st f i s).2.2 = true) : ∀ n, i ≤ n → rep st f n s = rep st f i s := by
  intro n hn
  induction n with
  | zero => rw [show i = 0 from by omega]
  | succ n ih =>
    by_cases e : i = n + 1
    · rw [e]
    · have := ih (by omega)
      rw [rep_snoc, this, if_pos h]
theorem repR_succ {α : Type} {f : α × RS → α × RS} {s : α × RS} {i : Nat} (h : ¬ (rep stR f i s).2.2 = true) : rep stR f (i + 1) s = f (rep stR f i s) := by
  rw [rep_snoc]; exact if_neg h
theorem listR_bad (n most : Nat) (s : RS) (h : (listP numR stR most n s).2.2 = false) (hs : okS s) : (listP numR stR most n s).1.length = n := by
  obtain ⟨l, b', h1, h2, -⟩ := list_sound numR_P (st := stR) rfl hs.1 h
  rw [h1]; exact h2
theorem rRead_ev (b : List Int) (hs : okS (b, false)) : cvT tab 21 [rB b] = some (catV (readG numR stR b)) := by
  refine cvTA_R (mf := Mf.f21) rfl rfl (by kernel_rfl) ?_
  simp only [Mf.f21]
  have hI := fun m D => readG_iff numR_P (st := stR) rfl hs.1 m D
  unfold readG catP at hI ⊢
  have e1 := numr_ev (b, false) 2 hs
  have h1 := numR_I.v 2 (b, false) hs (by omega)
  have h1s := numR_I.s 2 (b, false) hs
  generalize numR 2 (b, false) = q at *
  obtain ⟨m, s1⟩ := q
  simp only at e1 h1 h1s hI ⊢
  have e2 := numr_ev s1 4 h1s
  have h2 := numR_I.v 4 s1 h1s (by omega)
  have h2s := numR_I.s 4 s1 h1s
  generalize numR 4 s1 = q at *
  obtain ⟨u, s2⟩ := q
  obtain ⟨n, rfl⟩ := nat_of h2.1
  simp only [Int.toNat_natCast] at e2 h2 h2s hI ⊢
  obtain ⟨B, hB⟩ : ∃ B, rB b = B := ⟨_, rfl⟩
  have hB' : B = .ro b.length (b.map (.int .u8)) := hB.symm
  rw [hB]
  simp only [vR] at e1 e2
  simp [beqI, bneI, mm_min2, mm_max2, mm_min3, mm_max3, startE, lkE, lkX, lkE_rest, sx, substE, opVA, objs0, List.replicate, XA_seq, XA_region, XOA_go, goE_someA, opV, ev, putA, layAll, XOA_nil, XA_skip_seq, XA_skip_nil, XOA_gd, goG_tA, goG_uA, binV, bi_add, bi_sub, bi_mul, bi_quo, bi_rem, bi_eql, bi_neq, bi_lss, bi_leq, bi_gtr, bi_geq, bi_shl, bi_shr, bi_and, bi_or, bi_xor, unV, XA_ret_nil, XA_ret_cons, endFA_r, endFA_n, endTA_r, endTA_n, endRA_r, endRA_n, fltR, resultsA, resAs, resA, XA_block, XA_cond, pickX_t, pickX_f, pickX_b, XA_skip_blk, XA_skip_lp, XA_exit_seq, XA_exit_lp, XA_exit_blk, XA_exit_nil, load1, Ev.loadCells, objCells, bodyCells, setCells, AV.flat, AV.flat1, backR, backV, backCell, mapO, AV.cells, AV.atom, AV.tree, fillV, repeatL, treeCell, freezeAll, eqCells, callV_T, callV_F, passV, passCell, srcCells, sliceBounds, hiB, loB, thenQ_nA, thenQ_xA, thenQ_rA, runK_nA, runK_xA, runK_rA, wrap_i64, wrap_u64, wrap_u32, wrap_u8, wrap_u16, callV_O, okIds, passObjs, passBody, backObjs, backBody, adopts, List.idxOf?, List.findIdx?, List.findIdx?.go, hB', e1, e2]
  rw [← hB']
  refine XA_until (fun i => ⟨[(0, B), (2, .ptr 0 0 0), (4, .ptr 1 0 0), (5, .ptr 2 0 0), (6, .int .i64 n), (7, .int .i64 i)], [⟨0, .var [.nilsl, .int .i64 0]⟩, vR (dimsP numR stR i s2).2, ⟨0, .var [nlOr 7 2 i, .int .i64 m]⟩, ⟨0, .none⟩, ⟨0, .none⟩, ⟨0, .none⟩, ⟨0, .none⟩, nlObj 2 i (flatD (dimsP numR stR i s2).1)]⟩)
    (fun i => (dimsP numR stR i s2).1.length = i) (fun i => (dimsP numR stR i s2).2.2 = true) n 0 (Nat.zero_le _) (by simp [AV.atom, normA, lkE, fixObjs, fixBody, fixV, fixCell, vR, dimsP, rep, nlOr, nlObj, hB']) rfl ?_ ?_
  · intro i _ hi hbad hl
    have hi' : (i : Int) < (n : Int) := by omega
    have hP := dimsP_inv stR numR_I h2s i
    have hsucc : dimsP numR stR (i + 1) s2 = dimF numR stR (dimsP numR stR i s2) := repR_succ hbad
    rw [hsucc]
    clear hsucc
    generalize dimsP numR stR i s2 = p at *
    obtain ⟨L, s3⟩ := p
    obtain ⟨b3, bad3⟩ := s3
    simp only at hP hl hbad
    have hbad : bad3 = false := by cases bad3 <;> simp_all
    subst hbad
    simp only [dimF, dimP]
    have e3 := numr_ev (b3, false) 4 hP.2.1
    have h3 := numR_I.v 4 (b3, false) hP.2.1 (by omega)
    have h3s := numR_I.s 4 (b3, false) hP.2.1
    generalize numR 4 (b3, false) = q3 at *
    obtain ⟨u3, s4⟩ := q3
    obtain ⟨k, rfl⟩ := nat_of h3.1
    simp only [Int.toNat_natCast] at e3 h3 h3s ⊢
    simp only [vR] at e3
    have hw := wrap_succ i n hi (by omega)
    have hfl := flatD_two L
    rw [hl] at hfl
    simp only [flatD_snoc]
    generalize flatD L = fl at *
    have hg1 : (i + 1) * 48 ≤ 140737488355328 := by omega
    have hg2 : i + 1 < 4611686018427387904 := by omega
    have hcase : ∃ V7 O7, nlOr 7 2 i = V7 ∧ nlObj 2 i fl = O7 ∧ ((V7 = .nilsl ∧ O7 = ⟨0, .none⟩ ∧ i = 0 ∧ fl = []) ∨ (V7 = .own 7 0 0 i 2 ∧ O7 = ⟨0, .row true 2 fl⟩ ∧ ¬ i = 0)) := by
      refine ⟨_, _, rfl, rfl, ?_⟩
      by_cases h0 : i = 0
      · exact .inl ⟨by simp [nlOr, h0], by simp [nlObj, h0], h0, List.length_eq_zero_iff.1 (by omega)⟩
      · exact .inr ⟨by simp [nlOr, h0], by simp [nlObj, h0], h0⟩
    obtain ⟨V7, O7, hV7, hO7, hc⟩ := hcase
    rw [hV7, hO7]
    rcases hc with ⟨rfl, rfl, hi0, hfl0⟩ | ⟨rfl, rfl, hi0⟩
    · subst hi0
      subst hfl0
      simp at hw
      have hi2 : (0 : Int) < n := by omega
      have hi3 : 0 < n := by omega
      have hL0 : L = [] := List.length_eq_zero_iff.1 hl
      simp [beqI, bneI, mm_min2, mm_max2, mm_min3, mm_max3, startE, lkE, lkX, lkE_rest, sx, substE, opVA, objs0, List.replicate, XA_seq, XA_region, XOA_go, goE_someA, opV, ev, putA, layAll, XOA_nil, XA_skip_seq, XA_skip_nil, XOA_gd, goG_tA, goG_uA, binV, bi_add, bi_sub, bi_mul, bi_quo, bi_rem, bi_eql, bi_neq, bi_lss, bi_leq, bi_gtr, bi_geq, bi_shl, bi_shr, bi_and, bi_or, bi_xor, unV, XA_ret_nil, XA_ret_cons, endFA_r, endFA_n, endTA_r, endTA_n, endRA_r, endRA_n, fltR, resultsA, resAs, resA, XA_block, XA_cond, pickX_t, pickX_f, pickX_b, XA_skip_blk, XA_skip_lp, XA_exit_seq, XA_exit_lp, XA_exit_blk, XA_exit_nil, load1, Ev.loadCells, objCells, bodyCells, setCells, AV.flat, AV.flat1, backR, backV, backCell, mapO, AV.cells, AV.atom, AV.tree, fillV, repeatL, treeCell, freezeAll, eqCells, callV_T, callV_F, passV, passCell, srcCells, sliceBounds, hiB, loB, thenQ_nA, thenQ_xA, thenQ_rA, runK_nA, runK_xA, runK_rA, wrap_i64, wrap_u64, wrap_u32, wrap_u8, wrap_u16, callV_O, okIds, passObjs, passBody, backObjs, backBody, adopts, List.idxOf?, List.findIdx?, List.findIdx?.go, AV.atom, normA, lkE, fixObjs, fixBody, fixV, fixCell, vR, hi', e3, hB', hi2, hi3, hL0]
      rw [← hB']
      refine XA_until (fun j => ⟨[(0, B), (2, .ptr 0 0 0), (4, .ptr 1 0 0), (5, .ptr 2 0 0), (6, .int .i64 n), (7, .int .i64 0), (8, .ptr 3 0 0), (9, .int .i64 k), (10, .int .i64 j)], [⟨0, .var [.nilsl, .int .i64 0]⟩, vR (listP numR stR 40 j s4).2, ⟨0, .var [.nilsl, .int .i64 m]⟩, ⟨0, .var [nlOr 4 1 j, .nilsl]⟩, nlObj 1 j ((listP numR stR 40 j s4).1.map (.int .i64)), ⟨0, .none⟩, ⟨0, .none⟩, ⟨0, .none⟩]⟩)
        (fun j => (listP numR stR 40 j s4).1.length = j) (fun j => (listP numR stR 40 j s4).2.2 = true) k 0 (Nat.zero_le _) (by simp [AV.atom, normA, lkE, fixObjs, fixBody, fixV, fixCell, vR, listP, rep, nlOr, nlObj, hB', hi2, hi3, hL0]) rfl ?_ ?_
      · intro j _ hj hbj hlj
        have hj' : (j : Int) < (k : Int) := by omega
        have hPj := listP_inv stR numR_I (most := 40) (by omega) h3s j
        have hsj : listP numR stR 40 (j + 1) s4 = listF numR 40 (listP numR stR 40 j s4) := repR_succ hbj
        rw [hsj]
        clear hsj
        generalize listP numR stR 40 j s4 = pj at *
        obtain ⟨lj, bj, badj⟩ := pj
        simp only at hPj hlj hbj
        have hbj := (Bool.not_eq_true badj).mp hbj
        subst hbj
        simp only [listF]
        have e4 := numr_ev (bj, false) 40 hPj.2.1
        generalize numR 40 (bj, false) = q4 at *
        obtain ⟨u4, s5⟩ := q4
        simp only [vR] at e4
        have hwj := wrap_succ j k hj (by omega)
        have j1 : (j + 1) * 8 ≤ 140737488355328 := by omega
        have j2 : j + 1 < 4611686018427387904 := by omega
        by_cases hj0 : j = 0
        · subst hj0
          have hL : lj = [] := List.length_eq_zero_iff.1 hlj
          subst hL
          simp at hwj hj'
          have z2 : 0 < k := by omega
          simp [beqI, bneI, mm_min2, mm_max2, mm_min3, mm_max3, startE, lkE, lkX, lkE_rest, sx, substE, opVA, objs0, List.replicate, XA_seq, XA_region, XOA_go, goE_someA, opV, ev, putA, layAll, XOA_nil, XA_skip_seq, XA_skip_nil, XOA_gd, goG_tA, goG_uA, binV, bi_add, bi_sub, bi_mul, bi_quo, bi_rem, bi_eql, bi_neq, bi_lss, bi_leq, bi_gtr, bi_geq, bi_shl, bi_shr, bi_and, bi_or, bi_xor, unV, XA_ret_nil, XA_ret_cons, endFA_r, endFA_n, endTA_r, endTA_n, endRA_r, endRA_n, fltR, resultsA, resAs, resA, XA_block, XA_cond, pickX_t, pickX_f, pickX_b, XA_skip_blk, XA_skip_lp, XA_exit_seq, XA_exit_lp, XA_exit_blk, XA_exit_nil, load1, Ev.loadCells, objCells, bodyCells, setCells, AV.flat, AV.flat1, backR, backV, backCell, mapO, AV.cells, AV.atom, AV.tree, fillV, repeatL, treeCell, freezeAll, eqCells, callV_T, callV_F, passV, passCell, srcCells, sliceBounds, hiB, loB, thenQ_nA, thenQ_xA, thenQ_rA, runK_nA, runK_xA, runK_rA, wrap_i64, wrap_u64, wrap_u32, wrap_u8, wrap_u16, callV_O, okIds, passObjs, passBody, backObjs, backBody, adopts, List.idxOf?, List.findIdx?, List.findIdx?.go, AV.atom, normA, lkE, fixObjs, fixBody, fixV, fixCell, vR, hB', hj', z2, e4, hwj, nlOr, nlObj, hi2, hi3, hL0]
        · simp [beqI, bneI, mm_min2, mm_max2, mm_min3, mm_max3, startE, lkE, lkX, lkE_rest, sx, substE, opVA, objs0, List.replicate, XA_seq, XA_region, XOA_go, goE_someA, opV, ev, putA, layAll, XOA_nil, XA_skip_seq, XA_skip_nil, XOA_gd, goG_tA, goG_uA, binV, bi_add, bi_sub, bi_mul, bi_quo, bi_rem, bi_eql, bi_neq, bi_lss, bi_leq, bi_gtr, bi_geq, bi_shl, bi_shr, bi_and, bi_or, bi_xor, unV, XA_ret_nil, XA_ret_cons, endFA_r, endFA_n, endTA_r, endTA_n, endRA_r, endRA_n, fltR, resultsA, resAs, resA, XA_block, XA_cond, pickX_t, pickX_f, pickX_b, XA_skip_blk, XA_skip_lp, XA_exit_seq, XA_exit_lp, XA_exit_blk, XA_exit_nil, load1, Ev.loadCells, objCells, bodyCells, setCells, AV.flat, AV.flat1, backR, backV, backCell, mapO, AV.cells, AV.atom, AV.tree, fillV, repeatL, treeCell, freezeAll, eqCells, callV_T, callV_F, passV, passCell, srcCells, sliceBounds, hiB, loB, thenQ_nA, thenQ_xA, thenQ_rA, runK_nA, runK_xA, runK_rA, wrap_i64, wrap_u64, wrap_u32, wrap_u8, wrap_u16, callV_O, okIds, passObjs, passBody, backObjs, backBody, adopts, List.idxOf?, List.findIdx?, List.findIdx?.go, AV.atom, normA, lkE, fixObjs, fixBody, fixV, fixCell, vR, hB', hj', e4, hwj, j1, j2, hlj, hj0, nlOr, nlObj, hi2, hi3, hL0]
      · intro j _ hjk hoj hlS
        have hfin : listP numR stR 40 k s4 = listP numR stR 40 j s4 := by
          rcases hoj with rfl | h
          · rfl
          · exact rep_stuck (f := listF numR 40) h k hjk
        have hS := listP_inv stR numR_I (most := 40) (by omega) h3s j
        rw [hfin]
        generalize listP numR stR 40 j s4 = pj at *
        obtain ⟨S, s5⟩ := pj
        simp only at hS hlS hoj hfin
        simp only
        obtain ⟨SM, hSM⟩ : ∃ x, S.map (AV.int .i64) = x := ⟨_, rfl⟩
        rw [hSM]
        obtain ⟨E5, bad5⟩ : ∃ x : Bool, s5.2 = x := ⟨_, rfl⟩
        by_cases hj0 : j = 0
        · have hS0 : SM = [] := by rw [← hSM, List.length_eq_zero_iff.1 (hlS.trans hj0)]; rfl
          by_cases hjlt : j < k
          · have hb5 : s5.2 = true := hoj.resolve_left (by omega)
            have hjE : (0 : Int) < (k : Int) := by omega
            have hjN : 0 < k := by omega
            simp [beqI, bneI, mm_min2, mm_max2, mm_min3, mm_max3, startE, lkE, lkX, lkE_rest, sx, substE, opVA, objs0, List.replicate, XA_seq, XA_region, XOA_go, goE_someA, opV, ev, putA, layAll, XOA_nil, XA_skip_seq, XA_skip_nil, XOA_gd, goG_tA, goG_uA, binV, bi_add, bi_sub, bi_mul, bi_quo, bi_rem, bi_eql, bi_neq, bi_lss, bi_leq, bi_gtr, bi_geq, bi_shl, bi_shr, bi_and, bi_or, bi_xor, unV, XA_ret_nil, XA_ret_cons, endFA_r, endFA_n, endTA_r, endTA_n, endRA_r, endRA_n, fltR, resultsA, resAs, resA, XA_block, XA_cond, pickX_t, pickX_f, pickX_b, XA_skip_blk, XA_skip_lp, XA_exit_seq, XA_exit_lp, XA_exit_blk, XA_exit_nil, load1, Ev.loadCells, objCells, bodyCells, setCells, AV.flat, AV.flat1, backR, backV, backCell, mapO, AV.cells, AV.atom, AV.tree, fillV, repeatL, treeCell, freezeAll, eqCells, callV_T, callV_F, passV, passCell, srcCells, sliceBounds, hiB, loB, thenQ_nA, thenQ_xA, thenQ_rA, runK_nA, runK_xA, runK_rA, wrap_i64, wrap_u64, wrap_u32, wrap_u8, wrap_u16, callV_O, okIds, passObjs, passBody, backObjs, backBody, adopts, List.idxOf?, List.findIdx?, List.findIdx?.go, AV.atom, normA, lkE, fixObjs, fixBody, fixV, fixCell, vR, hB', nlOr, nlObj, hj0, hS0, hjE, hjN, hb5]
            rw [← hB']
            refine XA_until (fun t => ⟨[(0, B), (2, .ptr 0 0 0), (4, .ptr 1 0 0), (5, .ptr 2 0 0), (6, .int .i64 n), (7, .int .i64 0), (8, .ptr 3 0 0), (9, .int .i64 k), (11, .int .i64 t)], [⟨0, .var [.nilsl, .int .i64 0]⟩, vR (upP numR stR S t s5).2, ⟨0, .var [.nilsl, .int .i64 m]⟩, ⟨0, .var [.nilsl, nlOr 6 1 t]⟩, ⟨0, .none⟩, ⟨0, .none⟩, nlObj 1 t ((upP numR stR S t s5).1.map rI), ⟨0, .none⟩]⟩)
              (fun t => (upP numR stR S t s5).1.length = t) (fun t => (upP numR stR S t s5).2.2 = true) (k - 1) 0 (Nat.zero_le _) (by simp [AV.atom, normA, lkE, fixObjs, fixBody, fixV, fixCell, vR, upP, rep, nlOr, nlObj, hB', hj0, hS0, hjE, hjN, hb5]) rfl ?_ ?_
            · intro t _ ht hbt hlt
              have hPt := upP_inv stR numR_I S hS.2.2 hS.2.1 t
              have hst : upP numR stR S (t + 1) s5 = upF numR stR S (upP numR stR S t s5) := repR_succ hbt
              have hbad5 : s5.2 = false := upP_mono numR_P S t s5 (by simpa using hbt)
              have hSk : S.length = k := by
                have := listR_bad k 40 s4 (by rw [hfin]; exact hbad5) h3s
                rw [hfin] at this
                exact this
              omega
            · intro t _ htk hot hlt
              have hft : upP numR stR S (k - 1) s5 = upP numR stR S t s5 := by
                rcases hot with rfl | h
                · rfl
                · exact rep_stuck (f := upF numR stR S) h _ htk
              rw [hft]
              clear hft
              generalize upP numR stR S t s5 = pt at *
              obtain ⟨U, b6, bad6⟩ := pt
              simp only at hlt hot
              have hUm : (U.map rI).length = t := by rw [List.length_map, hlt]
              have hRU : AV.ro t (U.map rI) = rR U := by rw [← hlt]; rfl
              have hRS : AV.ro j SM = rI S := by rw [← hSM, ← hlS]; rfl
              have hSMl : SM.length = j := by rw [← hSM, List.length_map, hlS]
              have hSMt : List.take j SM = SM := List.take_of_length_le (by omega)
              generalize hum : U.map rI = um at *
              have hUt : List.take t um = um := List.take_of_length_le (by omega)
              have hwI : IntKind.i64.wrap ((t : Int) + 1) = (t : Int) + 1 := wrap_i64 (by omega) (by omega)
              by_cases ht1 : t + 1 < k
              · have hb6 : bad6 = true := hot.resolve_left (by omega)
                subst hb6
                have ht1' : (t : Int) + 1 < (k : Int) := by omega
                have ht1n : t = 0 → (1 : Int) < (k : Int) := fun _ => by omega
                by_cases ht0 : t = 0
                · subst ht0
                  simp at hwI
                  have ht1' := ht1n rfl
                  have hR0 : AV.ro 0 [] = rR U := by rw [← hRU, List.length_eq_zero_iff.1 hUm]
                  simp [beqI, bneI, mm_min2, mm_max2, mm_min3, mm_max3, startE, lkE, lkX, lkE_rest, sx, substE, opVA, objs0, List.replicate, XA_seq, XA_region, XOA_go, goE_someA, opV, ev, putA, layAll, XOA_nil, XA_skip_seq, XA_skip_nil, XOA_gd, goG_tA, goG_uA, binV, bi_add, bi_sub, bi_mul, bi_quo, bi_rem, bi_eql, bi_neq, bi_lss, bi_leq, bi_gtr, bi_geq, bi_shl, bi_shr, bi_and, bi_or, bi_xor, unV, XA_ret_nil, XA_ret_cons, endFA_r, endFA_n, endTA_r, endTA_n, endRA_r, endRA_n, fltR, resultsA, resAs, resA, XA_block, XA_cond, pickX_t, pickX_f, pickX_b, XA_skip_blk, XA_skip_lp, XA_exit_seq, XA_exit_lp, XA_exit_blk, XA_exit_nil, load1, Ev.loadCells, objCells, bodyCells, setCells, AV.flat, AV.flat1, backR, backV, backCell, mapO, AV.cells, AV.atom, AV.tree, fillV, repeatL, treeCell, freezeAll, eqCells, callV_T, callV_F, passV, passCell, srcCells, sliceBounds, hiB, loB, thenQ_nA, thenQ_xA, thenQ_rA, runK_nA, runK_xA, runK_rA, wrap_i64, wrap_u64, wrap_u32, wrap_u8, wrap_u16, callV_O, okIds, passObjs, passBody, backObjs, backBody, adopts, List.idxOf?, List.findIdx?, List.findIdx?.go, AV.atom, normA, lkE, fixObjs, fixBody, fixV, fixCell, vR, hB', nlOr, nlObj, hj0, hS0, hwI, ht1', hUt, hUm, hSMt, hSMl, hw, hl, ← hR0, ← hRS, hi2, hi3, hL0]
                · simp [beqI, bneI, mm_min2, mm_max2, mm_min3, mm_max3, startE, lkE, lkX, lkE_rest, sx, substE, opVA, objs0, List.replicate, XA_seq, XA_region, XOA_go, goE_someA, opV, ev, putA, layAll, XOA_nil, XA_skip_seq, XA_skip_nil, XOA_gd, goG_tA, goG_uA, binV, bi_add, bi_sub, bi_mul, bi_quo, bi_rem, bi_eql, bi_neq, bi_lss, bi_leq, bi_gtr, bi_geq, bi_shl, bi_shr, bi_and, bi_or, bi_xor, unV, XA_ret_nil, XA_ret_cons, endFA_r, endFA_n, endTA_r, endTA_n, endRA_r, endRA_n, fltR, resultsA, resAs, resA, XA_block, XA_cond, pickX_t, pickX_f, pickX_b, XA_skip_blk, XA_skip_lp, XA_exit_seq, XA_exit_lp, XA_exit_blk, XA_exit_nil, load1, Ev.loadCells, objCells, bodyCells, setCells, AV.flat, AV.flat1, backR, backV, backCell, mapO, AV.cells, AV.atom, AV.tree, fillV, repeatL, treeCell, freezeAll, eqCells, callV_T, callV_F, passV, passCell, srcCells, sliceBounds, hiB, loB, thenQ_nA, thenQ_xA, thenQ_rA, runK_nA, runK_xA, runK_rA, wrap_i64, wrap_u64, wrap_u32, wrap_u8, wrap_u16, callV_O, okIds, passObjs, passBody, backObjs, backBody, adopts, List.idxOf?, List.findIdx?, List.findIdx?.go, AV.atom, normA, lkE, fixObjs, fixBody, fixV, fixCell, vR, hB', nlOr, nlObj, hj0, hS0, ht0, hwI, ht1', hUt, hUm, hSMt, hSMl, hw, hl, ← hRU, ← hRS, hi2, hi3, hL0]
              · have ht1' : ¬ (t : Int) + 1 < (k : Int) := by omega
                have ht1n : t = 0 → ¬ (1 : Int) < (k : Int) := fun _ => by omega
                by_cases ht0 : t = 0
                · subst ht0
                  simp at hwI
                  have ht1' := ht1n rfl
                  have hR0 : AV.ro 0 [] = rR U := by rw [← hRU, List.length_eq_zero_iff.1 hUm]
                  simp [beqI, bneI, mm_min2, mm_max2, mm_min3, mm_max3, startE, lkE, lkX, lkE_rest, sx, substE, opVA, objs0, List.replicate, XA_seq, XA_region, XOA_go, goE_someA, opV, ev, putA, layAll, XOA_nil, XA_skip_seq, XA_skip_nil, XOA_gd, goG_tA, goG_uA, binV, bi_add, bi_sub, bi_mul, bi_quo, bi_rem, bi_eql, bi_neq, bi_lss, bi_leq, bi_gtr, bi_geq, bi_shl, bi_shr, bi_and, bi_or, bi_xor, unV, XA_ret_nil, XA_ret_cons, endFA_r, endFA_n, endTA_r, endTA_n, endRA_r, endRA_n, fltR, resultsA, resAs, resA, XA_block, XA_cond, pickX_t, pickX_f, pickX_b, XA_skip_blk, XA_skip_lp, XA_exit_seq, XA_exit_lp, XA_exit_blk, XA_exit_nil, load1, Ev.loadCells, objCells, bodyCells, setCells, AV.flat, AV.flat1, backR, backV, backCell, mapO, AV.cells, AV.atom, AV.tree, fillV, repeatL, treeCell, freezeAll, eqCells, callV_T, callV_F, passV, passCell, srcCells, sliceBounds, hiB, loB, thenQ_nA, thenQ_xA, thenQ_rA, runK_nA, runK_xA, runK_rA, wrap_i64, wrap_u64, wrap_u32, wrap_u8, wrap_u16, callV_O, okIds, passObjs, passBody, backObjs, backBody, adopts, List.idxOf?, List.findIdx?, List.findIdx?.go, AV.atom, normA, lkE, fixObjs, fixBody, fixV, fixCell, vR, hB', nlOr, nlObj, hj0, hS0, hwI, ht1', hUt, hUm, hSMt, hSMl, hw, hl, ← hR0, ← hRS, hi2, hi3, hL0]
                · simp [beqI, bneI, mm_min2, mm_max2, mm_min3, mm_max3, startE, lkE, lkX, lkE_rest, sx, substE, opVA, objs0, List.replicate, XA_seq, XA_region, XOA_go, goE_someA, opV, ev, putA, layAll, XOA_nil, XA_skip_seq, XA_skip_nil, XOA_gd, goG_tA, goG_uA, binV, bi_add, bi_sub, bi_mul, bi_quo, bi_rem, bi_eql, bi_neq, bi_lss, bi_leq, bi_gtr, bi_geq, bi_shl, bi_shr, bi_and, bi_or, bi_xor, unV, XA_ret_nil, XA_ret_cons, endFA_r, endFA_n, endTA_r, endTA_n, endRA_r, endRA_n, fltR, resultsA, resAs, resA, XA_block, XA_cond, pickX_t, pickX_f, pickX_b, XA_skip_blk, XA_skip_lp, XA_exit_seq, XA_exit_lp, XA_exit_blk, XA_exit_nil, load1, Ev.loadCells, objCells, bodyCells, setCells, AV.flat, AV.flat1, backR, backV, backCell, mapO, AV.cells, AV.atom, AV.tree, fillV, repeatL, treeCell, freezeAll, eqCells, callV_T, callV_F, passV, passCell, srcCells, sliceBounds, hiB, loB, thenQ_nA, thenQ_xA, thenQ_rA, runK_nA, runK_xA, runK_rA, wrap_i64, wrap_u64, wrap_u32, wrap_u8, wrap_u16, callV_O, okIds, passObjs, passBody, backObjs, backBody, adopts, List.idxOf?, List.findIdx?, List.findIdx?.go, AV.atom, normA, lkE, fixObjs, fixBody, fixV, fixCell, vR, hB', nlOr, nlObj, hj0, hS0, ht0, hwI, ht1', hUt, hUm, hSMt, hSMl, hw, hl, ← hRU, ← hRS, hi2, hi3, hL0]

          · have hjE : ¬ (0 : Int) < (k : Int) := by omega
            have hjN : ¬ 0 < k := by omega
            simp [beqI, bneI, mm_min2, mm_max2, mm_min3, mm_max3, startE, lkE, lkX, lkE_rest, sx, substE, opVA, objs0, List.replicate, XA_seq, XA_region, XOA_go, goE_someA, opV, ev, putA, layAll, XOA_nil, XA_skip_seq, XA_skip_nil, XOA_gd, goG_tA, goG_uA, binV, bi_add, bi_sub, bi_mul, bi_quo, bi_rem, bi_eql, bi_neq, bi_lss, bi_leq, bi_gtr, bi_geq, bi_shl, bi_shr, bi_and, bi_or, bi_xor, unV, XA_ret_nil, XA_ret_cons, endFA_r, endFA_n, endTA_r, endTA_n, endRA_r, endRA_n, fltR, resultsA, resAs, resA, XA_block, XA_cond, pickX_t, pickX_f, pickX_b, XA_skip_blk, XA_skip_lp, XA_exit_seq, XA_exit_lp, XA_exit_blk, XA_exit_nil, load1, Ev.loadCells, objCells, bodyCells, setCells, AV.flat, AV.flat1, backR, backV, backCell, mapO, AV.cells, AV.atom, AV.tree, fillV, repeatL, treeCell, freezeAll, eqCells, callV_T, callV_F, passV, passCell, srcCells, sliceBounds, hiB, loB, thenQ_nA, thenQ_xA, thenQ_rA, runK_nA, runK_xA, runK_rA, wrap_i64, wrap_u64, wrap_u32, wrap_u8, wrap_u16, callV_O, okIds, passObjs, passBody, backObjs, backBody, adopts, List.idxOf?, List.findIdx?, List.findIdx?.go, AV.atom, normA, lkE, fixObjs, fixBody, fixV, fixCell, vR, hB', nlOr, nlObj, hj0, hS0, hjE, hjN]
            rw [← hB']
            refine XA_until (fun t => ⟨[(0, B), (2, .ptr 0 0 0), (4, .ptr 1 0 0), (5, .ptr 2 0 0), (6, .int .i64 n), (7, .int .i64 0), (8, .ptr 3 0 0), (9, .int .i64 k), (11, .int .i64 t)], [⟨0, .var [.nilsl, .int .i64 0]⟩, vR (upP numR stR S t s5).2, ⟨0, .var [.nilsl, .int .i64 m]⟩, ⟨0, .var [.nilsl, nlOr 6 1 t]⟩, ⟨0, .none⟩, ⟨0, .none⟩, nlObj 1 t ((upP numR stR S t s5).1.map rI), ⟨0, .none⟩]⟩)
              (fun t => (upP numR stR S t s5).1.length = t) (fun t => (upP numR stR S t s5).2.2 = true) (k - 1) 0 (Nat.zero_le _) (by simp [AV.atom, normA, lkE, fixObjs, fixBody, fixV, fixCell, vR, upP, rep, nlOr, nlObj, hB', hj0, hS0, hjE, hjN]) rfl ?_ ?_
            · intro t _ ht hbt hlt
              have hPt := upP_inv stR numR_I S hS.2.2 hS.2.1 t
              have hst : upP numR stR S (t + 1) s5 = upF numR stR S (upP numR stR S t s5) := repR_succ hbt
              have hbad5 : s5.2 = false := upP_mono numR_P S t s5 (by simpa using hbt)
              have hSk : S.length = k := by
                have := listR_bad k 40 s4 (by rw [hfin]; exact hbad5) h3s
                rw [hfin] at this
                exact this
              omega
            · intro t _ htk hot hlt
              have hft : upP numR stR S (k - 1) s5 = upP numR stR S t s5 := by
                rcases hot with rfl | h
                · rfl
                · exact rep_stuck (f := upF numR stR S) h _ htk
              rw [hft]
              clear hft
              generalize upP numR stR S t s5 = pt at *
              obtain ⟨U, b6, bad6⟩ := pt
              simp only at hlt hot
              have hUm : (U.map rI).length = t := by rw [List.length_map, hlt]
              have hRU : AV.ro t (U.map rI) = rR U := by rw [← hlt]; rfl
              have hRS : AV.ro j SM = rI S := by rw [← hSM, ← hlS]; rfl
              have hSMl : SM.length = j := by rw [← hSM, List.length_map, hlS]
              have hSMt : List.take j SM = SM := List.take_of_length_le (by omega)
              generalize hum : U.map rI = um at *
              have hUt : List.take t um = um := List.take_of_length_le (by omega)
              have hwI : IntKind.i64.wrap ((t : Int) + 1) = (t : Int) + 1 := wrap_i64 (by omega) (by omega)
              by_cases ht1 : t + 1 < k
              · have hb6 : bad6 = true := hot.resolve_left (by omega)
                subst hb6
                have ht1' : (t : Int) + 1 < (k : Int) := by omega
                have ht1n : t = 0 → (1 : Int) < (k : Int) := fun _ => by omega
                by_cases ht0 : t = 0
                · subst ht0
                  simp at hwI
                  have ht1' := ht1n rfl
                  have hR0 : AV.ro 0 [] = rR U := by rw [← hRU, List.length_eq_zero_iff.1 hUm]
                  simp [beqI, bneI, mm_min2, mm_max2, mm_min3, mm_max3, startE, lkE, lkX, lkE_rest, sx, substE, opVA, objs0, List.replicate, XA_seq, XA_region, XOA_go, goE_someA, opV, ev, putA, layAll, XOA_nil, XA_skip_seq, XA_skip_nil, XOA_gd, goG_tA, goG_uA, binV, bi_add, bi_sub, bi_mul, bi_quo, bi_rem, bi_eql, bi_neq, bi_lss, bi_leq, bi_gtr, bi_geq, bi_shl, bi_shr, bi_and, bi_or, bi_xor, unV, XA_ret_nil, XA_ret_cons, endFA_r, endFA_n, endTA_r, endTA_n, endRA_r, endRA_n, fltR, resultsA, resAs, resA, XA_block, XA_cond, pickX_t, pickX_f, pickX_b, XA_skip_blk, XA_skip_lp, XA_exit_seq, XA_exit_lp, XA_exit_blk, XA_exit_nil, load1, Ev.loadCells, objCells, bodyCells, setCells, AV.flat, AV.flat1, backR, backV, backCell, mapO, AV.cells, AV.atom, AV.tree, fillV, repeatL, treeCell, freezeAll, eqCells, callV_T, callV_F, passV, passCell, srcCells, sliceBounds, hiB, loB, thenQ_nA, thenQ_xA, thenQ_rA, runK_nA, runK_xA, runK_rA, wrap_i64, wrap_u64, wrap_u32, wrap_u8, wrap_u16, callV_O, okIds, passObjs, passBody, backObjs, backBody, adopts, List.idxOf?, List.findIdx?, List.findIdx?.go, AV.atom, normA, lkE, fixObjs, fixBody, fixV, fixCell, vR, hB', nlOr, nlObj, hj0, hS0, hwI, ht1', hUt, hUm, hSMt, hSMl, hw, hl, ← hR0, ← hRS, hi2, hi3, hL0]
                · simp [beqI, bneI, mm_min2, mm_max2, mm_min3, mm_max3, startE, lkE, lkX, lkE_rest, sx, substE, opVA, objs0, List.replicate, XA_seq, XA_region, XOA_go, goE_someA, opV, ev, putA, layAll, XOA_nil, XA_skip_seq, XA_skip_nil, XOA_gd, goG_tA, goG_uA, binV, bi_add, bi_sub, bi_mul, bi_quo, bi_rem, bi_eql, bi_neq, bi_lss, bi_leq, bi_gtr, bi_geq, bi_shl, bi_shr, bi_and, bi_or, bi_xor, unV, XA_ret_nil, XA_ret_cons, endFA_r, endFA_n, endTA_r, endTA_n, endRA_r, endRA_n, fltR, resultsA, resAs, resA, XA_block, XA_cond, pickX_t, pickX_f, pickX_b, XA_skip_blk, XA_skip_lp, XA_exit_seq, XA_exit_lp, XA_exit_blk, XA_exit_nil, load1, Ev.loadCells, objCells, bodyCells, setCells, AV.flat, AV.flat1, backR, backV, backCell, mapO, AV.cells, AV.atom, AV.tree, fillV, repeatL, treeCell, freezeAll, eqCells, callV_T, callV_F, passV, passCell, srcCells, sliceBounds, hiB, loB, thenQ_nA, thenQ_xA, thenQ_rA, runK_nA, runK_xA, runK_rA, wrap_i64, wrap_u64, wrap_u32, wrap_u8, wrap_u16, callV_O, okIds, passObjs, passBody, backObjs, backBody, adopts, List.idxOf?, List.findIdx?, List.findIdx?.go, AV.atom, normA, lkE, fixObjs, fixBody, fixV, fixCell, vR, hB', nlOr, nlObj, hj0, hS0, ht0, hwI, ht1', hUt, hUm, hSMt, hSMl, hw, hl, ← hRU, ← hRS, hi2, hi3, hL0]
              · have ht1' : ¬ (t : Int) + 1 < (k : Int) := by omega
                have ht1n : t = 0 → ¬ (1 : Int) < (k : Int) := fun _ => by omega
                by_cases ht0 : t = 0
                · subst ht0
                  simp at hwI
                  have ht1' := ht1n rfl
                  have hR0 : AV.ro 0 [] = rR U := by rw [← hRU, List.length_eq_zero_iff.1 hUm]
                  simp [beqI, bneI, mm_min2, mm_max2, mm_min3, mm_max3, startE, lkE, lkX, lkE_rest, sx, substE, opVA, objs0, List.replicate, XA_seq, XA_region, XOA_go, goE_someA, opV, ev, putA, layAll, XOA_nil, XA_skip_seq, XA_skip_nil, XOA_gd, goG_tA, goG_uA, binV, bi_add, bi_sub, bi_mul, bi_quo, bi_rem, bi_eql, bi_neq, bi_lss, bi_leq, bi_gtr, bi_geq, bi_shl, bi_shr, bi_and, bi_or, bi_xor, unV, XA_ret_nil, XA_ret_cons, endFA_r, endFA_n, endTA_r, endTA_n, endRA_r, endRA_n, fltR, resultsA, resAs, resA, XA_block, XA_cond, pickX_t, pickX_f, pickX_b, XA_skip_blk, XA_skip_lp, XA_exit_seq, XA_exit_lp, XA_exit_blk, XA_exit_nil, load1, Ev.loadCells, objCells, bodyCells, setCells, AV.flat, AV.flat1, backR, backV, backCell, mapO, AV.cells, AV.atom, AV.tree, fillV, repeatL, treeCell, freezeAll, eqCells, callV_T, callV_F, passV, passCell, srcCells, sliceBounds, hiB, loB, thenQ_nA, thenQ_xA, thenQ_rA, runK_nA, runK_xA, runK_rA, wrap_i64, wrap_u64, wrap_u32, wrap_u8, wrap_u16, callV_O, okIds, passObjs, passBody, backObjs, backBody, adopts, List.idxOf?, List.findIdx?, List.findIdx?.go, AV.atom, normA, lkE, fixObjs, fixBody, fixV, fixCell, vR, hB', nlOr, nlObj, hj0, hS0, hwI, ht1', hUt, hUm, hSMt, hSMl, hw, hl, ← hR0, ← hRS, hi2, hi3, hL0]
                · simp [beqI, bneI, mm_min2, mm_max2, mm_min3, mm_max3, startE, lkE, lkX, lkE_rest, sx, substE, opVA, objs0, List.replicate, XA_seq, XA_region, XOA_go, goE_someA, opV, ev, putA, layAll, XOA_nil, XA_skip_seq, XA_skip_nil, XOA_gd, goG_tA, goG_uA, binV, bi_add, bi_sub, bi_mul, bi_quo, bi_rem, bi_eql, bi_neq, bi_lss, bi_leq, bi_gtr, bi_geq, bi_shl, bi_shr, bi_and, bi_or, bi_xor, unV, XA_ret_nil, XA_ret_cons, endFA_r, endFA_n, endTA_r, endTA_n, endRA_r, endRA_n, fltR, resultsA, resAs, resA, XA_block, XA_cond, pickX_t, pickX_f, pickX_b, XA_skip_blk, XA_skip_lp, XA_exit_seq, XA_exit_lp, XA_exit_blk, XA_exit_nil, load1, Ev.loadCells, objCells, bodyCells, setCells, AV.flat, AV.flat1, backR, backV, backCell, mapO, AV.cells, AV.atom, AV.tree, fillV, repeatL, treeCell, freezeAll, eqCells, callV_T, callV_F, passV, passCell, srcCells, sliceBounds, hiB, loB, thenQ_nA, thenQ_xA, thenQ_rA, runK_nA, runK_xA, runK_rA, wrap_i64, wrap_u64, wrap_u32, wrap_u8, wrap_u16, callV_O, okIds, passObjs, passBody, backObjs, backBody, adopts, List.idxOf?, List.findIdx?, List.findIdx?.go, AV.atom, normA, lkE, fixObjs, fixBody, fixV, fixCell, vR, hB', nlOr, nlObj, hj0, hS0, ht0, hwI, ht1', hUt, hUm, hSMt, hSMl, hw, hl, ← hRU, ← hRS, hi2, hi3, hL0]

        · by_cases hjlt : j < k
          · have hb5 : s5.2 = true := hoj.resolve_left (by omega)
            have hjE : (j : Int) < (k : Int) := by omega
            simp [beqI, bneI, mm_min2, mm_max2, mm_min3, mm_max3, startE, lkE, lkX, lkE_rest, sx, substE, opVA, objs0, List.replicate, XA_seq, XA_region, XOA_go, goE_someA, opV, ev, putA, layAll, XOA_nil, XA_skip_seq, XA_skip_nil, XOA_gd, goG_tA, goG_uA, binV, bi_add, bi_sub, bi_mul, bi_quo, bi_rem, bi_eql, bi_neq, bi_lss, bi_leq, bi_gtr, bi_geq, bi_shl, bi_shr, bi_and, bi_or, bi_xor, unV, XA_ret_nil, XA_ret_cons, endFA_r, endFA_n, endTA_r, endTA_n, endRA_r, endRA_n, fltR, resultsA, resAs, resA, XA_block, XA_cond, pickX_t, pickX_f, pickX_b, XA_skip_blk, XA_skip_lp, XA_exit_seq, XA_exit_lp, XA_exit_blk, XA_exit_nil, load1, Ev.loadCells, objCells, bodyCells, setCells, AV.flat, AV.flat1, backR, backV, backCell, mapO, AV.cells, AV.atom, AV.tree, fillV, repeatL, treeCell, freezeAll, eqCells, callV_T, callV_F, passV, passCell, srcCells, sliceBounds, hiB, loB, thenQ_nA, thenQ_xA, thenQ_rA, runK_nA, runK_xA, runK_rA, wrap_i64, wrap_u64, wrap_u32, wrap_u8, wrap_u16, callV_O, okIds, passObjs, passBody, backObjs, backBody, adopts, List.idxOf?, List.findIdx?, List.findIdx?.go, AV.atom, normA, lkE, fixObjs, fixBody, fixV, fixCell, vR, hB', nlOr, nlObj, hj0, hjE, hb5]
            rw [← hB']
            refine XA_until (fun t => ⟨[(0, B), (2, .ptr 0 0 0), (4, .ptr 1 0 0), (5, .ptr 2 0 0), (6, .int .i64 n), (7, .int .i64 0), (8, .ptr 3 0 0), (9, .int .i64 k), (11, .int .i64 t)], [⟨0, .var [.nilsl, .int .i64 0]⟩, vR (upP numR stR S t s5).2, ⟨0, .var [.nilsl, .int .i64 m]⟩, ⟨0, .var [.own 4 0 0 j 1, nlOr 6 1 t]⟩, ⟨0, .row true 1 SM⟩, ⟨0, .none⟩, nlObj 1 t ((upP numR stR S t s5).1.map rI), ⟨0, .none⟩]⟩)
              (fun t => (upP numR stR S t s5).1.length = t) (fun t => (upP numR stR S t s5).2.2 = true) (k - 1) 0 (Nat.zero_le _) (by simp [AV.atom, normA, lkE, fixObjs, fixBody, fixV, fixCell, vR, upP, rep, nlOr, nlObj, hB', hj0, hjE, hb5]) rfl ?_ ?_
            · intro t _ ht hbt hlt
              have hPt := upP_inv stR numR_I S hS.2.2 hS.2.1 t
              have hst : upP numR stR S (t + 1) s5 = upF numR stR S (upP numR stR S t s5) := repR_succ hbt
              have hbad5 : s5.2 = false := upP_mono numR_P S t s5 (by simpa using hbt)
              have hSk : S.length = k := by
                have := listR_bad k 40 s4 (by rw [hfin]; exact hbad5) h3s
                rw [hfin] at this
                exact this
              rw [hb5] at hbad5
              cases hbad5
            · intro t _ htk hot hlt
              have hft : upP numR stR S (k - 1) s5 = upP numR stR S t s5 := by
                rcases hot with rfl | h
                · rfl
                · exact rep_stuck (f := upF numR stR S) h _ htk
              rw [hft]
              clear hft
              generalize upP numR stR S t s5 = pt at *
              obtain ⟨U, b6, bad6⟩ := pt
              simp only at hlt hot
              have hUm : (U.map rI).length = t := by rw [List.length_map, hlt]
              have hRU : AV.ro t (U.map rI) = rR U := by rw [← hlt]; rfl
              have hRS : AV.ro j SM = rI S := by rw [← hSM, ← hlS]; rfl
              have hSMl : SM.length = j := by rw [← hSM, List.length_map, hlS]
              have hSMt : List.take j SM = SM := List.take_of_length_le (by omega)
              generalize hum : U.map rI = um at *
              have hUt : List.take t um = um := List.take_of_length_le (by omega)
              have hwI : IntKind.i64.wrap ((t : Int) + 1) = (t : Int) + 1 := wrap_i64 (by omega) (by omega)
              by_cases ht1 : t + 1 < k
              · have hb6 : bad6 = true := hot.resolve_left (by omega)
                subst hb6
                have ht1' : (t : Int) + 1 < (k : Int) := by omega
                have ht1n : t = 0 → (1 : Int) < (k : Int) := fun _ => by omega
                by_cases ht0 : t = 0
                · subst ht0
                  simp at hwI
                  have ht1' := ht1n rfl
                  have hR0 : AV.ro 0 [] = rR U := by rw [← hRU, List.length_eq_zero_iff.1 hUm]
                  simp [beqI, bneI, mm_min2, mm_max2, mm_min3, mm_max3, startE, lkE, lkX, lkE_rest, sx, substE, opVA, objs0, List.replicate, XA_seq, XA_region, XOA_go, goE_someA, opV, ev, putA, layAll, XOA_nil, XA_skip_seq, XA_skip_nil, XOA_gd, goG_tA, goG_uA, binV, bi_add, bi_sub, bi_mul, bi_quo, bi_rem, bi_eql, bi_neq, bi_lss, bi_leq, bi_gtr, bi_geq, bi_shl, bi_shr, bi_and, bi_or, bi_xor, unV, XA_ret_nil, XA_ret_cons, endFA_r, endFA_n, endTA_r, endTA_n, endRA_r, endRA_n, fltR, resultsA, resAs, resA, XA_block, XA_cond, pickX_t, pickX_f, pickX_b, XA_skip_blk, XA_skip_lp, XA_exit_seq, XA_exit_lp, XA_exit_blk, XA_exit_nil, load1, Ev.loadCells, objCells, bodyCells, setCells, AV.flat, AV.flat1, backR, backV, backCell, mapO, AV.cells, AV.atom, AV.tree, fillV, repeatL, treeCell, freezeAll, eqCells, callV_T, callV_F, passV, passCell, srcCells, sliceBounds, hiB, loB, thenQ_nA, thenQ_xA, thenQ_rA, runK_nA, runK_xA, runK_rA, wrap_i64, wrap_u64, wrap_u32, wrap_u8, wrap_u16, callV_O, okIds, passObjs, passBody, backObjs, backBody, adopts, List.idxOf?, List.findIdx?, List.findIdx?.go, AV.atom, normA, lkE, fixObjs, fixBody, fixV, fixCell, vR, hB', nlOr, nlObj, hj0, hwI, ht1', hUt, hUm, hSMt, hSMl, hw, hl, ← hR0, ← hRS, hi2, hi3, hL0]
                · simp [beqI, bneI, mm_min2, mm_max2, mm_min3, mm_max3, startE, lkE, lkX, lkE_rest, sx, substE, opVA, objs0, List.replicate, XA_seq, XA_region, XOA_go, goE_someA, opV, ev, putA, layAll, XOA_nil, XA_skip_seq, XA_skip_nil, XOA_gd, goG_tA, goG_uA, binV, bi_add, bi_sub, bi_mul, bi_quo, bi_rem, bi_eql, bi_neq, bi_lss, bi_leq, bi_gtr, bi_geq, bi_shl, bi_shr, bi_and, bi_or, bi_xor, unV, XA_ret_nil, XA_ret_cons, endFA_r, endFA_n, endTA_r, endTA_n, endRA_r, endRA_n, fltR, resultsA, resAs, resA, XA_block, XA_cond, pickX_t, pickX_f, pickX_b, XA_skip_blk, XA_skip_lp, XA_exit_seq, XA_exit_lp, XA_exit_blk, XA_exit_nil, load1, Ev.loadCells, objCells, bodyCells, setCells, AV.flat, AV.flat1, backR, backV, backCell, mapO, AV.cells, AV.atom, AV.tree, fillV, repeatL, treeCell, freezeAll, eqCells, callV_T, callV_F, passV, passCell, srcCells, sliceBounds, hiB, loB, thenQ_nA, thenQ_xA, thenQ_rA, runK_nA, runK_xA, runK_rA, wrap_i64, wrap_u64, wrap_u32, wrap_u8, wrap_u16, callV_O, okIds, passObjs, passBody, backObjs, backBody, adopts, List.idxOf?, List.findIdx?, List.findIdx?.go, AV.atom, normA, lkE, fixObjs, fixBody, fixV, fixCell, vR, hB', nlOr, nlObj, hj0, ht0, hwI, ht1', hUt, hUm, hSMt, hSMl, hw, hl, ← hRU, ← hRS, hi2, hi3, hL0]
              · have ht1' : ¬ (t : Int) + 1 < (k : Int) := by omega
                have ht1n : t = 0 → ¬ (1 : Int) < (k : Int) := fun _ => by omega
                by_cases ht0 : t = 0
                · subst ht0
                  simp at hwI
                  have ht1' := ht1n rfl
                  have hR0 : AV.ro 0 [] = rR U := by rw [← hRU, List.length_eq_zero_iff.1 hUm]
                  simp [beqI, bneI, mm_min2, mm_max2, mm_min3, mm_max3, startE, lkE, lkX, lkE_rest, sx, substE, opVA, objs0, List.replicate, XA_seq, XA_region, XOA_go, goE_someA, opV, ev, putA, layAll, XOA_nil, XA_skip_seq, XA_skip_nil, XOA_gd, goG_tA, goG_uA, binV, bi_add, bi_sub, bi_mul, bi_quo, bi_rem, bi_eql, bi_neq, bi_lss, bi_leq, bi_gtr, bi_geq, bi_shl, bi_shr, bi_and, bi_or, bi_xor, unV, XA_ret_nil, XA_ret_cons, endFA_r, endFA_n, endTA_r, endTA_n, endRA_r, endRA_n, fltR, resultsA, resAs, resA, XA_block, XA_cond, pickX_t, pickX_f, pickX_b, XA_skip_blk, XA_skip_lp, XA_exit_seq, XA_exit_lp, XA_exit_blk, XA_exit_nil, load1, Ev.loadCells, objCells, bodyCells, setCells, AV.flat, AV.flat1, backR, backV, backCell, mapO, AV.cells, AV.atom, AV.tree, fillV, repeatL, treeCell, freezeAll, eqCells, callV_T, callV_F, passV, passCell, srcCells, sliceBounds, hiB, loB, thenQ_nA, thenQ_xA, thenQ_rA, runK_nA, runK_xA, runK_rA, wrap_i64, wrap_u64, wrap_u32, wrap_u8, wrap_u16, callV_O, okIds, passObjs, passBody, backObjs, backBody, adopts, List.idxOf?, List.findIdx?, List.findIdx?.go, AV.atom, normA, lkE, fixObjs, fixBody, fixV, fixCell, vR, hB', nlOr, nlObj, hj0, hwI, ht1', hUt, hUm, hSMt, hSMl, hw, hl, ← hR0, ← hRS, hi2, hi3, hL0]
                · simp [beqI, bneI, mm_min2, mm_max2, mm_min3, mm_max3, startE, lkE, lkX, lkE_rest, sx, substE, opVA, objs0, List.replicate, XA_seq, XA_region, XOA_go, goE_someA, opV, ev, putA, layAll, XOA_nil, XA_skip_seq, XA_skip_nil, XOA_gd, goG_tA, goG_uA, binV, bi_add, bi_sub, bi_mul, bi_quo, bi_rem, bi_eql, bi_neq, bi_lss, bi_leq, bi_gtr, bi_geq, bi_shl, bi_shr, bi_and, bi_or, bi_xor, unV, XA_ret_nil, XA_ret_cons, endFA_r, endFA_n, endTA_r, endTA_n, endRA_r, endRA_n, fltR, resultsA, resAs, resA, XA_block, XA_cond, pickX_t, pickX_f, pickX_b, XA_skip_blk, XA_skip_lp, XA_exit_seq, XA_exit_lp, XA_exit_blk, XA_exit_nil, load1, Ev.loadCells, objCells, bodyCells, setCells, AV.flat, AV.flat1, backR, backV, backCell, mapO, AV.cells, AV.atom, AV.tree, fillV, repeatL, treeCell, freezeAll, eqCells, callV_T, callV_F, passV, passCell, srcCells, sliceBounds, hiB, loB, thenQ_nA, thenQ_xA, thenQ_rA, runK_nA, runK_xA, runK_rA, wrap_i64, wrap_u64, wrap_u32, wrap_u8, wrap_u16, callV_O, okIds, passObjs, passBody, backObjs, backBody, adopts, List.idxOf?, List.findIdx?, List.findIdx?.go, AV.atom, normA, lkE, fixObjs, fixBody, fixV, fixCell, vR, hB', nlOr, nlObj, hj0, ht0, hwI, ht1', hUt, hUm, hSMt, hSMl, hw, hl, ← hRU, ← hRS, hi2, hi3, hL0]

          · have hjE : ¬ (j : Int) < (k : Int) := by omega
            simp [beqI, bneI, mm_min2, mm_max2, mm_min3, mm_max3, startE, lkE, lkX, lkE_rest, sx, substE, opVA, objs0, List.replicate, XA_seq, XA_region, XOA_go, goE_someA, opV, ev, putA, layAll, XOA_nil, XA_skip_seq, XA_skip_nil, XOA_gd, goG_tA, goG_uA, binV, bi_add, bi_sub, bi_mul, bi_quo, bi_rem, bi_eql, bi_neq, bi_lss, bi_leq, bi_gtr, bi_geq, bi_shl, bi_shr, bi_and, bi_or, bi_xor, unV, XA_ret_nil, XA_ret_cons, endFA_r, endFA_n, endTA_r, endTA_n, endRA_r, endRA_n, fltR, resultsA, resAs, resA, XA_block, XA_cond, pickX_t, pickX_f, pickX_b, XA_skip_blk, XA_skip_lp, XA_exit_seq, XA_exit_lp, XA_exit_blk, XA_exit_nil, load1, Ev.loadCells, objCells, bodyCells, setCells, AV.flat, AV.flat1, backR, backV, backCell, mapO, AV.cells, AV.atom, AV.tree, fillV, repeatL, treeCell, freezeAll, eqCells, callV_T, callV_F, passV, passCell, srcCells, sliceBounds, hiB, loB, thenQ_nA, thenQ_xA, thenQ_rA, runK_nA, runK_xA, runK_rA, wrap_i64, wrap_u64, wrap_u32, wrap_u8, wrap_u16, callV_O, okIds, passObjs, passBody, backObjs, backBody, adopts, List.idxOf?, List.findIdx?, List.findIdx?.go, AV.atom, normA, lkE, fixObjs, fixBody, fixV, fixCell, vR, hB', nlOr, nlObj, hj0, hjE]
            rw [← hB']
            refine XA_until (fun t => ⟨[(0, B), (2, .ptr 0 0 0), (4, .ptr 1 0 0), (5, .ptr 2 0 0), (6, .int .i64 n), (7, .int .i64 0), (8, .ptr 3 0 0), (9, .int .i64 k), (11, .int .i64 t)], [⟨0, .var [.nilsl, .int .i64 0]⟩, vR (upP numR stR S t s5).2, ⟨0, .var [.nilsl, .int .i64 m]⟩, ⟨0, .var [.own 4 0 0 j 1, nlOr 6 1 t]⟩, ⟨0, .row true 1 SM⟩, ⟨0, .none⟩, nlObj 1 t ((upP numR stR S t s5).1.map rI), ⟨0, .none⟩]⟩)
              (fun t => (upP numR stR S t s5).1.length = t) (fun t => (upP numR stR S t s5).2.2 = true) (k - 1) 0 (Nat.zero_le _) (by simp [AV.atom, normA, lkE, fixObjs, fixBody, fixV, fixCell, vR, upP, rep, nlOr, nlObj, hB', hj0, hjE]) rfl ?_ ?_
            · intro t _ ht hbt hlt
              have hPt := upP_inv stR numR_I S hS.2.2 hS.2.1 t
              have hst : upP numR stR S (t + 1) s5 = upF numR stR S (upP numR stR S t s5) := repR_succ hbt
              have hbad5 : s5.2 = false := upP_mono numR_P S t s5 (by simpa using hbt)
              have hSk : S.length = k := by
                have := listR_bad k 40 s4 (by rw [hfin]; exact hbad5) h3s
                rw [hfin] at this
                exact this
              rw [hst]
              clear hst
              generalize hUU : upP numR stR S t s5 = pt at *
              obtain ⟨U, s6⟩ := pt
              simp only at hPt hlt hbt
              have h6 : s6.2 = false := by simpa using hbt
              have hUl : (U.map rI).length = t := by rw [List.length_map, hlt]
              have htS : t < S.length := by omega
              have hSt := hS.2.2 _ (List.getElem_mem htS)
              simp only [upF, hlt, gI_get _ _ htS]
              have hix : SM[t]? = some (.int .i64 S[t]) := by rw [← hSM]; simp [htS]
              obtain ⟨c, hcc⟩ := nat_of hSt.1
              rw [hcc] at hSt hix ⊢
              simp only [Int.toNat_natCast]
              have htj : (t : Int) < (j : Int) := by omega
              have hwt := wrap_succ t k (by omega) (by omega)
              have hb6 : s6 = (s6.1, false) := by rw [← h6]
              have hstep : True ∧ listP numR stR 40 c s6 = listP numR stR 40 c s6 := ⟨trivial, rfl⟩
              rcases Nat.eq_zero_or_pos t with ht0 | ht0
              · subst ht0
                have hU0 : U = [] := List.length_eq_zero_iff.1 hlt
                have z1 : (1 : Int) < k := by omega
                have z2 : (0 : Int) < j := by omega
                have z3 : 0 < j := by omega
                simp at hix hwt
                simp [beqI, bneI, mm_min2, mm_max2, mm_min3, mm_max3, startE, lkE, lkX, lkE_rest, sx, substE, opVA, objs0, List.replicate, XA_seq, XA_region, XOA_go, goE_someA, opV, ev, putA, layAll, XOA_nil, XA_skip_seq, XA_skip_nil, XOA_gd, goG_tA, goG_uA, binV, bi_add, bi_sub, bi_mul, bi_quo, bi_rem, bi_eql, bi_neq, bi_lss, bi_leq, bi_gtr, bi_geq, bi_shl, bi_shr, bi_and, bi_or, bi_xor, unV, XA_ret_nil, XA_ret_cons, endFA_r, endFA_n, endTA_r, endTA_n, endRA_r, endRA_n, fltR, resultsA, resAs, resA, XA_block, XA_cond, pickX_t, pickX_f, pickX_b, XA_skip_blk, XA_skip_lp, XA_exit_seq, XA_exit_lp, XA_exit_blk, XA_exit_nil, load1, Ev.loadCells, objCells, bodyCells, setCells, AV.flat, AV.flat1, backR, backV, backCell, mapO, AV.cells, AV.atom, AV.tree, fillV, repeatL, treeCell, freezeAll, eqCells, callV_T, callV_F, passV, passCell, srcCells, sliceBounds, hiB, loB, thenQ_nA, thenQ_xA, thenQ_rA, runK_nA, runK_xA, runK_rA, wrap_i64, wrap_u64, wrap_u32, wrap_u8, wrap_u16, callV_O, okIds, passObjs, passBody, backObjs, backBody, adopts, List.idxOf?, List.findIdx?, List.findIdx?.go, AV.atom, normA, lkE, fixObjs, fixBody, fixV, fixCell, vR, hB', nlOr, nlObj, h6, hj0, z1, z2, z3, hix, hwt]
                rw [← hB']
                refine XA_until (fun r => ⟨[(0, B), (2, .ptr 0 0 0), (4, .ptr 1 0 0), (5, .ptr 2 0 0), (6, .int .i64 n), (7, .int .i64 0), (8, .ptr 3 0 0), (9, .int .i64 k), (11, .int .i64 0), (12, .own 5 0 0 r 1), (13, .int .i64 r)], [⟨0, .var [.nilsl, .int .i64 0]⟩, vR (listP numR stR 40 r s6).2, ⟨0, .var [.nilsl, .int .i64 m]⟩, ⟨0, .var [.own 4 0 0 j 1, .nilsl]⟩, ⟨0, .row true 1 SM⟩, ⟨0, .row true 1 ((listP numR stR 40 r s6).1.map (.int .i64))⟩, ⟨0, .none⟩, ⟨0, .none⟩]⟩)
                  (fun r => (listP numR stR 40 r s6).1.length = r) (fun r => (listP numR stR 40 r s6).2.2 = true) c 0 (Nat.zero_le _) (by simp [AV.atom, normA, lkE, fixObjs, fixBody, fixV, fixCell, vR, listP, rep, hB', h6, hj0, z1, z2, z3, hix, hwt]) rfl ?_ ?_
                · intro r _ hr hbr hlr
                  have hr' : (r : Int) < (c : Int) := by omega
                  have hPr := listP_inv stR numR_I (most := 40) (by omega) hPt.2.1 r
                  have hsr : listP numR stR 40 (r + 1) s6 = listF numR 40 (listP numR stR 40 r s6) := repR_succ hbr
                  rw [hsr]
                  clear hsr
                  generalize listP numR stR 40 r s6 = pr at *
                  obtain ⟨lr, br, badr⟩ := pr
                  simp only at hPr hlr hbr
                  have hbr := (Bool.not_eq_true badr).mp hbr
                  subst hbr
                  simp only [listF]
                  have e5 := numr_ev (br, false) 40 hPr.2.1
                  generalize numR 40 (br, false) = q5 at *
                  obtain ⟨u5, s7⟩ := q5
                  simp only [vR] at e5
                  have hwr := wrap_succ r c hr (by omega)
                  have r1 : (r + 1) * 8 ≤ 140737488355328 := by omega
                  have r2 : r + 1 < 4611686018427387904 := by omega
                  simp [beqI, bneI, mm_min2, mm_max2, mm_min3, mm_max3, startE, lkE, lkX, lkE_rest, sx, substE, opVA, objs0, List.replicate, XA_seq, XA_region, XOA_go, goE_someA, opV, ev, putA, layAll, XOA_nil, XA_skip_seq, XA_skip_nil, XOA_gd, goG_tA, goG_uA, binV, bi_add, bi_sub, bi_mul, bi_quo, bi_rem, bi_eql, bi_neq, bi_lss, bi_leq, bi_gtr, bi_geq, bi_shl, bi_shr, bi_and, bi_or, bi_xor, unV, XA_ret_nil, XA_ret_cons, endFA_r, endFA_n, endTA_r, endTA_n, endRA_r, endRA_n, fltR, resultsA, resAs, resA, XA_block, XA_cond, pickX_t, pickX_f, pickX_b, XA_skip_blk, XA_skip_lp, XA_exit_seq, XA_exit_lp, XA_exit_blk, XA_exit_nil, load1, Ev.loadCells, objCells, bodyCells, setCells, AV.flat, AV.flat1, backR, backV, backCell, mapO, AV.cells, AV.atom, AV.tree, fillV, repeatL, treeCell, freezeAll, eqCells, callV_T, callV_F, passV, passCell, srcCells, sliceBounds, hiB, loB, thenQ_nA, thenQ_xA, thenQ_rA, runK_nA, runK_xA, runK_rA, wrap_i64, wrap_u64, wrap_u32, wrap_u8, wrap_u16, callV_O, okIds, passObjs, passBody, backObjs, backBody, adopts, List.idxOf?, List.findIdx?, List.findIdx?.go, AV.atom, normA, lkE, fixObjs, fixBody, fixV, fixCell, vR, hB', hr', e5, hwr, r1, r2, hlr, nlOr, nlObj, hj0, z1, z2, z3, hix, hwt]
                · intro r _ hrc hor hlr
                  have hfr : listP numR stR 40 c s6 = listP numR stR 40 r s6 := by
                    rcases hor with rfl | h
                    · rfl
                    · exact rep_stuck (f := listF numR 40) h c hrc
                  rw [hfr] at hstep ⊢
                  clear hfr
                  generalize listP numR stR 40 r s6 = pr at *
                  obtain ⟨lr, br, badr⟩ := pr
                  simp only at hlr hor
                  have hrI : AV.ro r (lr.map (.int .i64)) = rI lr := by rw [← hlr]; rfl
                  have hml : (lr.map (AV.int .i64)).length = r := by rw [List.length_map, hlr]
                  generalize hmr : lr.map (AV.int .i64) = ml at *
                  have hmt : List.take r ml = ml := List.take_of_length_le (by omega)
                  by_cases hrlt : r < c
                  · have hbr : badr = true := hor.resolve_left (by omega)
                    subst hbr
                    have hr' : (r : Int) < (c : Int) := by omega
                    simp [beqI, bneI, mm_min2, mm_max2, mm_min3, mm_max3, startE, lkE, lkX, lkE_rest, sx, substE, opVA, objs0, List.replicate, XA_seq, XA_region, XOA_go, goE_someA, opV, ev, putA, layAll, XOA_nil, XA_skip_seq, XA_skip_nil, XOA_gd, goG_tA, goG_uA, binV, bi_add, bi_sub, bi_mul, bi_quo, bi_rem, bi_eql, bi_neq, bi_lss, bi_leq, bi_gtr, bi_geq, bi_shl, bi_shr, bi_and, bi_or, bi_xor, unV, XA_ret_nil, XA_ret_cons, endFA_r, endFA_n, endTA_r, endTA_n, endRA_r, endRA_n, fltR, resultsA, resAs, resA, XA_block, XA_cond, pickX_t, pickX_f, pickX_b, XA_skip_blk, XA_skip_lp, XA_exit_seq, XA_exit_lp, XA_exit_blk, XA_exit_nil, load1, Ev.loadCells, objCells, bodyCells, setCells, AV.flat, AV.flat1, backR, backV, backCell, mapO, AV.cells, AV.atom, AV.tree, fillV, repeatL, treeCell, freezeAll, eqCells, callV_T, callV_F, passV, passCell, srcCells, sliceBounds, hiB, loB, thenQ_nA, thenQ_xA, thenQ_rA, runK_nA, runK_xA, runK_rA, wrap_i64, wrap_u64, wrap_u32, wrap_u8, wrap_u16, callV_O, okIds, passObjs, passBody, backObjs, backBody, adopts, List.idxOf?, List.findIdx?, List.findIdx?.go, AV.atom, normA, lkE, fixObjs, fixBody, fixV, fixCell, vR, hB', hr', nlOr, nlObj, hmt, hml, hrI, hUl, hj0, z1, z2, z3, hix, hwt, hU0, hlt]
                  · have hr' : ¬ (r : Int) < (c : Int) := by omega
                    simp [beqI, bneI, mm_min2, mm_max2, mm_min3, mm_max3, startE, lkE, lkX, lkE_rest, sx, substE, opVA, objs0, List.replicate, XA_seq, XA_region, XOA_go, goE_someA, opV, ev, putA, layAll, XOA_nil, XA_skip_seq, XA_skip_nil, XOA_gd, goG_tA, goG_uA, binV, bi_add, bi_sub, bi_mul, bi_quo, bi_rem, bi_eql, bi_neq, bi_lss, bi_leq, bi_gtr, bi_geq, bi_shl, bi_shr, bi_and, bi_or, bi_xor, unV, XA_ret_nil, XA_ret_cons, endFA_r, endFA_n, endTA_r, endTA_n, endRA_r, endRA_n, fltR, resultsA, resAs, resA, XA_block, XA_cond, pickX_t, pickX_f, pickX_b, XA_skip_blk, XA_skip_lp, XA_exit_seq, XA_exit_lp, XA_exit_blk, XA_exit_nil, load1, Ev.loadCells, objCells, bodyCells, setCells, AV.flat, AV.flat1, backR, backV, backCell, mapO, AV.cells, AV.atom, AV.tree, fillV, repeatL, treeCell, freezeAll, eqCells, callV_T, callV_F, passV, passCell, srcCells, sliceBounds, hiB, loB, thenQ_nA, thenQ_xA, thenQ_rA, runK_nA, runK_xA, runK_rA, wrap_i64, wrap_u64, wrap_u32, wrap_u8, wrap_u16, callV_O, okIds, passObjs, passBody, backObjs, backBody, adopts, List.idxOf?, List.findIdx?, List.findIdx?.go, AV.atom, normA, lkE, fixObjs, fixBody, fixV, fixCell, vR, hB', hr', nlOr, nlObj, hmt, hml, hrI, hUl, hj0, z1, z2, z3, hix, hwt, hU0, hlt]
              · have ht0 : ¬ t = 0 := by omega
                have h1t : (t : Int) + 1 < (k : Int) := by omega
                have t1 : (t + 1) * 24 ≤ 140737488355328 := by omega
                have t2 : t + 1 < 4611686018427387904 := by omega
                simp [beqI, bneI, mm_min2, mm_max2, mm_min3, mm_max3, startE, lkE, lkX, lkE_rest, sx, substE, opVA, objs0, List.replicate, XA_seq, XA_region, XOA_go, goE_someA, opV, ev, putA, layAll, XOA_nil, XA_skip_seq, XA_skip_nil, XOA_gd, goG_tA, goG_uA, binV, bi_add, bi_sub, bi_mul, bi_quo, bi_rem, bi_eql, bi_neq, bi_lss, bi_leq, bi_gtr, bi_geq, bi_shl, bi_shr, bi_and, bi_or, bi_xor, unV, XA_ret_nil, XA_ret_cons, endFA_r, endFA_n, endTA_r, endTA_n, endRA_r, endRA_n, fltR, resultsA, resAs, resA, XA_block, XA_cond, pickX_t, pickX_f, pickX_b, XA_skip_blk, XA_skip_lp, XA_exit_seq, XA_exit_lp, XA_exit_blk, XA_exit_nil, load1, Ev.loadCells, objCells, bodyCells, setCells, AV.flat, AV.flat1, backR, backV, backCell, mapO, AV.cells, AV.atom, AV.tree, fillV, repeatL, treeCell, freezeAll, eqCells, callV_T, callV_F, passV, passCell, srcCells, sliceBounds, hiB, loB, thenQ_nA, thenQ_xA, thenQ_rA, runK_nA, runK_xA, runK_rA, wrap_i64, wrap_u64, wrap_u32, wrap_u8, wrap_u16, callV_O, okIds, passObjs, passBody, backObjs, backBody, adopts, List.idxOf?, List.findIdx?, List.findIdx?.go, AV.atom, normA, lkE, fixObjs, fixBody, fixV, fixCell, vR, hB', nlOr, nlObj, h6, hj0, ht0, h1t, htj, hix, hwt]
                rw [← hB']
                refine XA_until (fun r => ⟨[(0, B), (2, .ptr 0 0 0), (4, .ptr 1 0 0), (5, .ptr 2 0 0), (6, .int .i64 n), (7, .int .i64 0), (8, .ptr 3 0 0), (9, .int .i64 k), (11, .int .i64 t), (12, .own 5 0 0 r 1), (13, .int .i64 r)], [⟨0, .var [.nilsl, .int .i64 0]⟩, vR (listP numR stR 40 r s6).2, ⟨0, .var [.nilsl, .int .i64 m]⟩, ⟨0, .var [.own 4 0 0 j 1, .own 6 0 0 t 1]⟩, ⟨0, .row true 1 SM⟩, ⟨0, .row true 1 ((listP numR stR 40 r s6).1.map (.int .i64))⟩, ⟨0, .row true 1 (U.map rI)⟩, ⟨0, .none⟩]⟩)
                  (fun r => (listP numR stR 40 r s6).1.length = r) (fun r => (listP numR stR 40 r s6).2.2 = true) c 0 (Nat.zero_le _) (by simp [AV.atom, normA, lkE, fixObjs, fixBody, fixV, fixCell, vR, listP, rep, hB', h6, hj0, ht0, h1t, htj, hix, hwt]) rfl ?_ ?_
                · intro r _ hr hbr hlr
                  have hr' : (r : Int) < (c : Int) := by omega
                  have hPr := listP_inv stR numR_I (most := 40) (by omega) hPt.2.1 r
                  have hsr : listP numR stR 40 (r + 1) s6 = listF numR 40 (listP numR stR 40 r s6) := repR_succ hbr
                  rw [hsr]
                  clear hsr
                  generalize listP numR stR 40 r s6 = pr at *
                  obtain ⟨lr, br, badr⟩ := pr
                  simp only at hPr hlr hbr
                  have hbr := (Bool.not_eq_true badr).mp hbr
                  subst hbr
                  simp only [listF]
                  have e5 := numr_ev (br, false) 40 hPr.2.1
                  generalize numR 40 (br, false) = q5 at *
                  obtain ⟨u5, s7⟩ := q5
                  simp only [vR] at e5
                  have hwr := wrap_succ r c hr (by omega)
                  have r1 : (r + 1) * 8 ≤ 140737488355328 := by omega
                  have r2 : r + 1 < 4611686018427387904 := by omega
                  simp [beqI, bneI, mm_min2, mm_max2, mm_min3, mm_max3, startE, lkE, lkX, lkE_rest, sx, substE, opVA, objs0, List.replicate, XA_seq, XA_region, XOA_go, goE_someA, opV, ev, putA, layAll, XOA_nil, XA_skip_seq, XA_skip_nil, XOA_gd, goG_tA, goG_uA, binV, bi_add, bi_sub, bi_mul, bi_quo, bi_rem, bi_eql, bi_neq, bi_lss, bi_leq, bi_gtr, bi_geq, bi_shl, bi_shr, bi_and, bi_or, bi_xor, unV, XA_ret_nil, XA_ret_cons, endFA_r, endFA_n, endTA_r, endTA_n, endRA_r, endRA_n, fltR, resultsA, resAs, resA, XA_block, XA_cond, pickX_t, pickX_f, pickX_b, XA_skip_blk, XA_skip_lp, XA_exit_seq, XA_exit_lp, XA_exit_blk, XA_exit_nil, load1, Ev.loadCells, objCells, bodyCells, setCells, AV.flat, AV.flat1, backR, backV, backCell, mapO, AV.cells, AV.atom, AV.tree, fillV, repeatL, treeCell, freezeAll, eqCells, callV_T, callV_F, passV, passCell, srcCells, sliceBounds, hiB, loB, thenQ_nA, thenQ_xA, thenQ_rA, runK_nA, runK_xA, runK_rA, wrap_i64, wrap_u64, wrap_u32, wrap_u8, wrap_u16, callV_O, okIds, passObjs, passBody, backObjs, backBody, adopts, List.idxOf?, List.findIdx?, List.findIdx?.go, AV.atom, normA, lkE, fixObjs, fixBody, fixV, fixCell, vR, hB', hr', e5, hwr, r1, r2, hlr, nlOr, nlObj, hj0, ht0, h1t, htj, hix, hwt]
                · intro r _ hrc hor hlr
                  have hfr : listP numR stR 40 c s6 = listP numR stR 40 r s6 := by
                    rcases hor with rfl | h
                    · rfl
                    · exact rep_stuck (f := listF numR 40) h c hrc
                  rw [hfr] at hstep ⊢
                  clear hfr
                  generalize listP numR stR 40 r s6 = pr at *
                  obtain ⟨lr, br, badr⟩ := pr
                  simp only at hlr hor
                  have hrI : AV.ro r (lr.map (.int .i64)) = rI lr := by rw [← hlr]; rfl
                  have hml : (lr.map (AV.int .i64)).length = r := by rw [List.length_map, hlr]
                  generalize hmr : lr.map (AV.int .i64) = ml at *
                  have hmt : List.take r ml = ml := List.take_of_length_le (by omega)
                  by_cases hrlt : r < c
                  · have hbr : badr = true := hor.resolve_left (by omega)
                    subst hbr
                    have hr' : (r : Int) < (c : Int) := by omega
                    simp [beqI, bneI, mm_min2, mm_max2, mm_min3, mm_max3, startE, lkE, lkX, lkE_rest, sx, substE, opVA, objs0, List.replicate, XA_seq, XA_region, XOA_go, goE_someA, opV, ev, putA, layAll, XOA_nil, XA_skip_seq, XA_skip_nil, XOA_gd, goG_tA, goG_uA, binV, bi_add, bi_sub, bi_mul, bi_quo, bi_rem, bi_eql, bi_neq, bi_lss, bi_leq, bi_gtr, bi_geq, bi_shl, bi_shr, bi_and, bi_or, bi_xor, unV, XA_ret_nil, XA_ret_cons, endFA_r, endFA_n, endTA_r, endTA_n, endRA_r, endRA_n, fltR, resultsA, resAs, resA, XA_block, XA_cond, pickX_t, pickX_f, pickX_b, XA_skip_blk, XA_skip_lp, XA_exit_seq, XA_exit_lp, XA_exit_blk, XA_exit_nil, load1, Ev.loadCells, objCells, bodyCells, setCells, AV.flat, AV.flat1, backR, backV, backCell, mapO, AV.cells, AV.atom, AV.tree, fillV, repeatL, treeCell, freezeAll, eqCells, callV_T, callV_F, passV, passCell, srcCells, sliceBounds, hiB, loB, thenQ_nA, thenQ_xA, thenQ_rA, runK_nA, runK_xA, runK_rA, wrap_i64, wrap_u64, wrap_u32, wrap_u8, wrap_u16, callV_O, okIds, passObjs, passBody, backObjs, backBody, adopts, List.idxOf?, List.findIdx?, List.findIdx?.go, AV.atom, normA, lkE, fixObjs, fixBody, fixV, fixCell, vR, hB', hr', nlOr, nlObj, hmt, hml, hrI, hUl, hj0, ht0, h1t, htj, hix, hwt, t1, t2, hlt]
                  · have hr' : ¬ (r : Int) < (c : Int) := by omega
                    simp [beqI, bneI, mm_min2, mm_max2, mm_min3, mm_max3, startE, lkE, lkX, lkE_rest, sx, substE, opVA, objs0, List.replicate, XA_seq, XA_region, XOA_go, goE_someA, opV, ev, putA, layAll, XOA_nil, XA_skip_seq, XA_skip_nil, XOA_gd, goG_tA, goG_uA, binV, bi_add, bi_sub, bi_mul, bi_quo, bi_rem, bi_eql, bi_neq, bi_lss, bi_leq, bi_gtr, bi_geq, bi_shl, bi_shr, bi_and, bi_or, bi_xor, unV, XA_ret_nil, XA_ret_cons, endFA_r, endFA_n, endTA_r, endTA_n, endRA_r, endRA_n, fltR, resultsA, resAs, resA, XA_block, XA_cond, pickX_t, pickX_f, pickX_b, XA_skip_blk, XA_skip_lp, XA_exit_seq, XA_exit_lp, XA_exit_blk, XA_exit_nil, load1, Ev.loadCells, objCells, bodyCells, setCells, AV.flat, AV.flat1, backR, backV, backCell, mapO, AV.cells, AV.atom, AV.tree, fillV, repeatL, treeCell, freezeAll, eqCells, callV_T, callV_F, passV, passCell, srcCells, sliceBounds, hiB, loB, thenQ_nA, thenQ_xA, thenQ_rA, runK_nA, runK_xA, runK_rA, wrap_i64, wrap_u64, wrap_u32, wrap_u8, wrap_u16, callV_O, okIds, passObjs, passBody, backObjs, backBody, adopts, List.idxOf?, List.findIdx?, List.findIdx?.go, AV.atom, normA, lkE, fixObjs, fixBody, fixV, fixCell, vR, hB', hr', nlOr, nlObj, hmt, hml, hrI, hUl, hj0, ht0, h1t, htj, hix, hwt, t1, t2, hlt]
            · intro t _ htk hot hlt
              have hft : upP numR stR S (k - 1) s5 = upP numR stR S t s5 := by
                rcases hot with rfl | h
                · rfl
                · exact rep_stuck (f := upF numR stR S) h _ htk
              rw [hft]
              clear hft
              generalize upP numR stR S t s5 = pt at *
              obtain ⟨U, b6, bad6⟩ := pt
              simp only at hlt hot
              have hUm : (U.map rI).length = t := by rw [List.length_map, hlt]
              have hRU : AV.ro t (U.map rI) = rR U := by rw [← hlt]; rfl
              have hRS : AV.ro j SM = rI S := by rw [← hSM, ← hlS]; rfl
              have hSMl : SM.length = j := by rw [← hSM, List.length_map, hlS]
              have hSMt : List.take j SM = SM := List.take_of_length_le (by omega)
              generalize hum : U.map rI = um at *
              have hUt : List.take t um = um := List.take_of_length_le (by omega)
              have hwI : IntKind.i64.wrap ((t : Int) + 1) = (t : Int) + 1 := wrap_i64 (by omega) (by omega)
              by_cases ht1 : t + 1 < k
              · have hb6 : bad6 = true := hot.resolve_left (by omega)
                subst hb6
                have ht1' : (t : Int) + 1 < (k : Int) := by omega
                have ht1n : t = 0 → (1 : Int) < (k : Int) := fun _ => by omega
                by_cases ht0 : t = 0
                · subst ht0
                  simp at hwI
                  have ht1' := ht1n rfl
                  have hR0 : AV.ro 0 [] = rR U := by rw [← hRU, List.length_eq_zero_iff.1 hUm]
                  simp [beqI, bneI, mm_min2, mm_max2, mm_min3, mm_max3, startE, lkE, lkX, lkE_rest, sx, substE, opVA, objs0, List.replicate, XA_seq, XA_region, XOA_go, goE_someA, opV, ev, putA, layAll, XOA_nil, XA_skip_seq, XA_skip_nil, XOA_gd, goG_tA, goG_uA, binV, bi_add, bi_sub, bi_mul, bi_quo, bi_rem, bi_eql, bi_neq, bi_lss, bi_leq, bi_gtr, bi_geq, bi_shl, bi_shr, bi_and, bi_or, bi_xor, unV, XA_ret_nil, XA_ret_cons, endFA_r, endFA_n, endTA_r, endTA_n, endRA_r, endRA_n, fltR, resultsA, resAs, resA, XA_block, XA_cond, pickX_t, pickX_f, pickX_b, XA_skip_blk, XA_skip_lp, XA_exit_seq, XA_exit_lp, XA_exit_blk, XA_exit_nil, load1, Ev.loadCells, objCells, bodyCells, setCells, AV.flat, AV.flat1, backR, backV, backCell, mapO, AV.cells, AV.atom, AV.tree, fillV, repeatL, treeCell, freezeAll, eqCells, callV_T, callV_F, passV, passCell, srcCells, sliceBounds, hiB, loB, thenQ_nA, thenQ_xA, thenQ_rA, runK_nA, runK_xA, runK_rA, wrap_i64, wrap_u64, wrap_u32, wrap_u8, wrap_u16, callV_O, okIds, passObjs, passBody, backObjs, backBody, adopts, List.idxOf?, List.findIdx?, List.findIdx?.go, AV.atom, normA, lkE, fixObjs, fixBody, fixV, fixCell, vR, hB', nlOr, nlObj, hj0, hwI, ht1', hUt, hUm, hSMt, hSMl, hw, hl, ← hR0, ← hRS, hi2, hi3, hL0]
                · simp [beqI, bneI, mm_min2, mm_max2, mm_min3, mm_max3, startE, lkE, lkX, lkE_rest, sx, substE, opVA, objs0, List.replicate, XA_seq, XA_region, XOA_go, goE_someA, opV, ev, putA, layAll, XOA_nil, XA_skip_seq, XA_skip_nil, XOA_gd, goG_tA, goG_uA, binV, bi_add, bi_sub, bi_mul, bi_quo, bi_rem, bi_eql, bi_neq, bi_lss, bi_leq, bi_gtr, bi_geq, bi_shl, bi_shr, bi_and, bi_or, bi_xor, unV, XA_ret_nil, XA_ret_cons, endFA_r, endFA_n, endTA_r, endTA_n, endRA_r, endRA_n, fltR, resultsA, resAs, resA, XA_block, XA_cond, pickX_t, pickX_f, pickX_b, XA_skip_blk, XA_skip_lp, XA_exit_seq, XA_exit_lp, XA_exit_blk, XA_exit_nil, load1, Ev.loadCells, objCells, bodyCells, setCells, AV.flat, AV.flat1, backR, backV, backCell, mapO, AV.cells, AV.atom, AV.tree, fillV, repeatL, treeCell, freezeAll, eqCells, callV_T, callV_F, passV, passCell, srcCells, sliceBounds, hiB, loB, thenQ_nA, thenQ_xA, thenQ_rA, runK_nA, runK_xA, runK_rA, wrap_i64, wrap_u64, wrap_u32, wrap_u8, wrap_u16, callV_O, okIds, passObjs, passBody, backObjs, backBody, adopts, List.idxOf?, List.findIdx?, List.findIdx?.go, AV.atom, normA, lkE, fixObjs, fixBody, fixV, fixCell, vR, hB', nlOr, nlObj, hj0, ht0, hwI, ht1', hUt, hUm, hSMt, hSMl, hw, hl, ← hRU, ← hRS, hi2, hi3, hL0]
              · have ht1' : ¬ (t : Int) + 1 < (k : Int) := by omega
                have ht1n : t = 0 → ¬ (1 : Int) < (k : Int) := fun _ => by omega
                by_cases ht0 : t = 0
                · subst ht0
                  simp at hwI
                  have ht1' := ht1n rfl
                  have hR0 : AV.ro 0 [] = rR U := by rw [← hRU, List.length_eq_zero_iff.1 hUm]
                  simp [beqI, bneI, mm_min2, mm_max2, mm_min3, mm_max3, startE, lkE, lkX, lkE_rest, sx, substE, opVA, objs0, List.replicate, XA_seq, XA_region, XOA_go, goE_someA, opV, ev, putA, layAll, XOA_nil, XA_skip_seq, XA_skip_nil, XOA_gd, goG_tA, goG_uA, binV, bi_add, bi_sub, bi_mul, bi_quo, bi_rem, bi_eql, bi_neq, bi_lss, bi_leq, bi_gtr, bi_geq, bi_shl, bi_shr, bi_and, bi_or, bi_xor, unV, XA_ret_nil, XA_ret_cons, endFA_r, endFA_n, endTA_r, endTA_n, endRA_r, endRA_n, fltR, resultsA, resAs, resA, XA_block, XA_cond, pickX_t, pickX_f, pickX_b, XA_skip_blk, XA_skip_lp, XA_exit_seq, XA_exit_lp, XA_exit_blk, XA_exit_nil, load1, Ev.loadCells, objCells, bodyCells, setCells, AV.flat, AV.flat1, backR, backV, backCell, mapO, AV.cells, AV.atom, AV.tree, fillV, repeatL, treeCell, freezeAll, eqCells, callV_T, callV_F, passV, passCell, srcCells, sliceBounds, hiB, loB, thenQ_nA, thenQ_xA, thenQ_rA, runK_nA, runK_xA, runK_rA, wrap_i64, wrap_u64, wrap_u32, wrap_u8, wrap_u16, callV_O, okIds, passObjs, passBody, backObjs, backBody, adopts, List.idxOf?, List.findIdx?, List.findIdx?.go, AV.atom, normA, lkE, fixObjs, fixBody, fixV, fixCell, vR, hB', nlOr, nlObj, hj0, hwI, ht1', hUt, hUm, hSMt, hSMl, hw, hl, ← hR0, ← hRS, hi2, hi3, hL0]
                · simp [beqI, bneI, mm_min2, mm_max2, mm_min3, mm_max3, startE, lkE, lkX, lkE_rest, sx, substE, opVA, objs0, List.replicate, XA_seq, XA_region, XOA_go, goE_someA, opV, ev, putA, layAll, XOA_nil, XA_skip_seq, XA_skip_nil, XOA_gd, goG_tA, goG_uA, binV, bi_add, bi_sub, bi_mul, bi_quo, bi_rem, bi_eql, bi_neq, bi_lss, bi_leq, bi_gtr, bi_geq, bi_shl, bi_shr, bi_and, bi_or, bi_xor, unV, XA_ret_nil, XA_ret_cons, endFA_r, endFA_n, endTA_r, endTA_n, endRA_r, endRA_n, fltR, resultsA, resAs, resA, XA_block, XA_cond, pickX_t, pickX_f, pickX_b, XA_skip_blk, XA_skip_lp, XA_exit_seq, XA_exit_lp, XA_exit_blk, XA_exit_nil, load1, Ev.loadCells, objCells, bodyCells, setCells, AV.flat, AV.flat1, backR, backV, backCell, mapO, AV.cells, AV.atom, AV.tree, fillV, repeatL, treeCell, freezeAll, eqCells, callV_T, callV_F, passV, passCell, srcCells, sliceBounds, hiB, loB, thenQ_nA, thenQ_xA, thenQ_rA, runK_nA, runK_xA, runK_rA, wrap_i64, wrap_u64, wrap_u32, wrap_u8, wrap_u16, callV_O, okIds, passObjs, passBody, backObjs, backBody, adopts, List.idxOf?, List.findIdx?, List.findIdx?.go, AV.atom, normA, lkE, fixObjs, fixBody, fixV, fixCell, vR, hB', nlOr, nlObj, hj0, ht0, hwI, ht1', hUt, hUm, hSMt, hSMl, hw, hl, ← hRU, ← hRS, hi2, hi3, hL0]

    · simp [beqI, bneI, mm_min2, mm_max2, mm_min3, mm_max3, startE, lkE, lkX, lkE_rest, sx, substE, opVA, objs0, List.replicate, XA_seq, XA_region, XOA_go, goE_someA, opV, ev, putA, layAll, XOA_nil, XA_skip_seq, XA_skip_nil, XOA_gd, goG_tA, goG_uA, binV, bi_add, bi_sub, bi_mul, bi_quo, bi_rem, bi_eql, bi_neq, bi_lss, bi_leq, bi_gtr, bi_geq, bi_shl, bi_shr, bi_and, bi_or, bi_xor, unV, XA_ret_nil, XA_ret_cons, endFA_r, endFA_n, endTA_r, endTA_n, endRA_r, endRA_n, fltR, resultsA, resAs, resA, XA_block, XA_cond, pickX_t, pickX_f, pickX_b, XA_skip_blk, XA_skip_lp, XA_exit_seq, XA_exit_lp, XA_exit_blk, XA_exit_nil, load1, Ev.loadCells, objCells, bodyCells, setCells, AV.flat, AV.flat1, backR, backV, backCell, mapO, AV.cells, AV.atom, AV.tree, fillV, repeatL, treeCell, freezeAll, eqCells, callV_T, callV_F, passV, passCell, srcCells, sliceBounds, hiB, loB, thenQ_nA, thenQ_xA, thenQ_rA, runK_nA, runK_xA, runK_rA, wrap_i64, wrap_u64, wrap_u32, wrap_u8, wrap_u16, callV_O, okIds, passObjs, passBody, backObjs, backBody, adopts, List.idxOf?, List.findIdx?, List.findIdx?.go, AV.atom, normA, lkE, fixObjs, fixBody, fixV, fixCell, vR, hi', e3, hB', hi0, hi', hg1, hg2, hfl]
      rw [← hB']
      refine XA_until (fun j => ⟨[(0, B), (2, .ptr 0 0 0), (4, .ptr 1 0 0), (5, .ptr 2 0 0), (6, .int .i64 n), (7, .int .i64 i), (8, .ptr 3 0 0), (9, .int .i64 k), (10, .int .i64 j)], [⟨0, .var [.nilsl, .int .i64 0]⟩, vR (listP numR stR 40 j s4).2, ⟨0, .var [.own 7 0 0 i 2, .int .i64 m]⟩, ⟨0, .var [nlOr 4 1 j, .nilsl]⟩, nlObj 1 j ((listP numR stR 40 j s4).1.map (.int .i64)), ⟨0, .none⟩, ⟨0, .none⟩, ⟨0, .row true 2 fl⟩]⟩)
        (fun j => (listP numR stR 40 j s4).1.length = j) (fun j => (listP numR stR 40 j s4).2.2 = true) k 0 (Nat.zero_le _) (by simp [AV.atom, normA, lkE, fixObjs, fixBody, fixV, fixCell, vR, listP, rep, nlOr, nlObj, hB', hi0, hi', hg1, hg2, hfl]) rfl ?_ ?_
      · intro j _ hj hbj hlj
        have hj' : (j : Int) < (k : Int) := by omega
        have hPj := listP_inv stR numR_I (most := 40) (by omega) h3s j
        have hsj : listP numR stR 40 (j + 1) s4 = listF numR 40 (listP numR stR 40 j s4) := repR_succ hbj
        rw [hsj]
        clear hsj
        generalize listP numR stR 40 j s4 = pj at *
        obtain ⟨lj, bj, badj⟩ := pj
        simp only at hPj hlj hbj
        have hbj := (Bool.not_eq_true badj).mp hbj
        subst hbj
        simp only [listF]
        have e4 := numr_ev (bj, false) 40 hPj.2.1
        generalize numR 40 (bj, false) = q4 at *
        obtain ⟨u4, s5⟩ := q4
        simp only [vR] at e4
        have hwj := wrap_succ j k hj (by omega)
        have j1 : (j + 1) * 8 ≤ 140737488355328 := by omega
        have j2 : j + 1 < 4611686018427387904 := by omega
        by_cases hj0 : j = 0
        · subst hj0
          have hL : lj = [] := List.length_eq_zero_iff.1 hlj
          subst hL
          simp at hwj hj'
          have z2 : 0 < k := by omega
          simp [beqI, bneI, mm_min2, mm_max2, mm_min3, mm_max3, startE, lkE, lkX, lkE_rest, sx, substE, opVA, objs0, List.replicate, XA_seq, XA_region, XOA_go, goE_someA, opV, ev, putA, layAll, XOA_nil, XA_skip_seq, XA_skip_nil, XOA_gd, goG_tA, goG_uA, binV, bi_add, bi_sub, bi_mul, bi_quo, bi_rem, bi_eql, bi_neq, bi_lss, bi_leq, bi_gtr, bi_geq, bi_shl, bi_shr, bi_and, bi_or, bi_xor, unV, XA_ret_nil, XA_ret_cons, endFA_r, endFA_n, endTA_r, endTA_n, endRA_r, endRA_n, fltR, resultsA, resAs, resA, XA_block, XA_cond, pickX_t, pickX_f, pickX_b, XA_skip_blk, XA_skip_lp, XA_exit_seq, XA_exit_lp, XA_exit_blk, XA_exit_nil, load1, Ev.loadCells, objCells, bodyCells, setCells, AV.flat, AV.flat1, backR, backV, backCell, mapO, AV.cells, AV.atom, AV.tree, fillV, repeatL, treeCell, freezeAll, eqCells, callV_T, callV_F, passV, passCell, srcCells, sliceBounds, hiB, loB, thenQ_nA, thenQ_xA, thenQ_rA, runK_nA, runK_xA, runK_rA, wrap_i64, wrap_u64, wrap_u32, wrap_u8, wrap_u16, callV_O, okIds, passObjs, passBody, backObjs, backBody, adopts, List.idxOf?, List.findIdx?, List.findIdx?.go, AV.atom, normA, lkE, fixObjs, fixBody, fixV, fixCell, vR, hB', hj', z2, e4, hwj, nlOr, nlObj, hi0, hi', hg1, hg2, hfl]
        · simp [beqI, bneI, mm_min2, mm_max2, mm_min3, mm_max3, startE, lkE, lkX, lkE_rest, sx, substE, opVA, objs0, List.replicate, XA_seq, XA_region, XOA_go, goE_someA, opV, ev, putA, layAll, XOA_nil, XA_skip_seq, XA_skip_nil, XOA_gd, goG_tA, goG_uA, binV, bi_add, bi_sub, bi_mul, bi_quo, bi_rem, bi_eql, bi_neq, bi_lss, bi_leq, bi_gtr, bi_geq, bi_shl, bi_shr, bi_and, bi_or, bi_xor, unV, XA_ret_nil, XA_ret_cons, endFA_r, endFA_n, endTA_r, endTA_n, endRA_r, endRA_n, fltR, resultsA, resAs, resA, XA_block, XA_cond, pickX_t, pickX_f, pickX_b, XA_skip_blk, XA_skip_lp, XA_exit_seq, XA_exit_lp, XA_exit_blk, XA_exit_nil, load1, Ev.loadCells, objCells, bodyCells, setCells, AV.flat, AV.flat1, backR, backV, backCell, mapO, AV.cells, AV.atom, AV.tree, fillV, repeatL, treeCell, freezeAll, eqCells, callV_T, callV_F, passV, passCell, srcCells, sliceBounds, hiB, loB, thenQ_nA, thenQ_xA, thenQ_rA, runK_nA, runK_xA, runK_rA, wrap_i64, wrap_u64, wrap_u32, wrap_u8, wrap_u16, callV_O, okIds, passObjs, passBody, backObjs, backBody, adopts, List.idxOf?, List.findIdx?, List.findIdx?.go, AV.atom, normA, lkE, fixObjs, fixBody, fixV, fixCell, vR, hB', hj', e4, hwj, j1, j2, hlj, hj0, nlOr, nlObj, hi0, hi', hg1, hg2, hfl]
      · intro j _ hjk hoj hlS
        have hfin : listP numR stR 40 k s4 = listP numR stR 40 j s4 := by
          rcases hoj with rfl | h
          · rfl
          · exact rep_stuck (f := listF numR 40) h k hjk
        have hS := listP_inv stR numR_I (most := 40) (by omega) h3s j
        rw [hfin]
        generalize listP numR stR 40 j s4 = pj at *
        obtain ⟨S, s5⟩ := pj
        simp only at hS hlS hoj hfin
        simp only
        obtain ⟨SM, hSM⟩ : ∃ x, S.map (AV.int .i64) = x := ⟨_, rfl⟩
        rw [hSM]
        obtain ⟨E5, bad5⟩ : ∃ x : Bool, s5.2 = x := ⟨_, rfl⟩
        by_cases hj0 : j = 0
        · have hS0 : SM = [] := by rw [← hSM, List.length_eq_zero_iff.1 (hlS.trans hj0)]; rfl
          by_cases hjlt : j < k
          · have hb5 : s5.2 = true := hoj.resolve_left (by omega)
            have hjE : (0 : Int) < (k : Int) := by omega
            have hjN : 0 < k := by omega
            simp [beqI, bneI, mm_min2, mm_max2, mm_min3, mm_max3, startE, lkE, lkX, lkE_rest, sx, substE, opVA, objs0, List.replicate, XA_seq, XA_region, XOA_go, goE_someA, opV, ev, putA, layAll, XOA_nil, XA_skip_seq, XA_skip_nil, XOA_gd, goG_tA, goG_uA, binV, bi_add, bi_sub, bi_mul, bi_quo, bi_rem, bi_eql, bi_neq, bi_lss, bi_leq, bi_gtr, bi_geq, bi_shl, bi_shr, bi_and, bi_or, bi_xor, unV, XA_ret_nil, XA_ret_cons, endFA_r, endFA_n, endTA_r, endTA_n, endRA_r, endRA_n, fltR, resultsA, resAs, resA, XA_block, XA_cond, pickX_t, pickX_f, pickX_b, XA_skip_blk, XA_skip_lp, XA_exit_seq, XA_exit_lp, XA_exit_blk, XA_exit_nil, load1, Ev.loadCells, objCells, bodyCells, setCells, AV.flat, AV.flat1, backR, backV, backCell, mapO, AV.cells, AV.atom, AV.tree, fillV, repeatL, treeCell, freezeAll, eqCells, callV_T, callV_F, passV, passCell, srcCells, sliceBounds, hiB, loB, thenQ_nA, thenQ_xA, thenQ_rA, runK_nA, runK_xA, runK_rA, wrap_i64, wrap_u64, wrap_u32, wrap_u8, wrap_u16, callV_O, okIds, passObjs, passBody, backObjs, backBody, adopts, List.idxOf?, List.findIdx?, List.findIdx?.go, AV.atom, normA, lkE, fixObjs, fixBody, fixV, fixCell, vR, hB', nlOr, nlObj, hj0, hS0, hjE, hjN, hb5]
            rw [← hB']
            refine XA_until (fun t => ⟨[(0, B), (2, .ptr 0 0 0), (4, .ptr 1 0 0), (5, .ptr 2 0 0), (6, .int .i64 n), (7, .int .i64 i), (8, .ptr 3 0 0), (9, .int .i64 k), (11, .int .i64 t)], [⟨0, .var [.nilsl, .int .i64 0]⟩, vR (upP numR stR S t s5).2, ⟨0, .var [.own 7 0 0 i 2, .int .i64 m]⟩, ⟨0, .var [.nilsl, nlOr 6 1 t]⟩, ⟨0, .none⟩, ⟨0, .none⟩, nlObj 1 t ((upP numR stR S t s5).1.map rI), ⟨0, .row true 2 fl⟩]⟩)
              (fun t => (upP numR stR S t s5).1.length = t) (fun t => (upP numR stR S t s5).2.2 = true) (k - 1) 0 (Nat.zero_le _) (by simp [AV.atom, normA, lkE, fixObjs, fixBody, fixV, fixCell, vR, upP, rep, nlOr, nlObj, hB', hj0, hS0, hjE, hjN, hb5]) rfl ?_ ?_
            · intro t _ ht hbt hlt
              have hPt := upP_inv stR numR_I S hS.2.2 hS.2.1 t
              have hst : upP numR stR S (t + 1) s5 = upF numR stR S (upP numR stR S t s5) := repR_succ hbt
              have hbad5 : s5.2 = false := upP_mono numR_P S t s5 (by simpa using hbt)
              have hSk : S.length = k := by
                have := listR_bad k 40 s4 (by rw [hfin]; exact hbad5) h3s
                rw [hfin] at this
                exact this
              omega
            · intro t _ htk hot hlt
              have hft : upP numR stR S (k - 1) s5 = upP numR stR S t s5 := by
                rcases hot with rfl | h
                · rfl
                · exact rep_stuck (f := upF numR stR S) h _ htk
              rw [hft]
              clear hft
              generalize upP numR stR S t s5 = pt at *
              obtain ⟨U, b6, bad6⟩ := pt
              simp only at hlt hot
              have hUm : (U.map rI).length = t := by rw [List.length_map, hlt]
              have hRU : AV.ro t (U.map rI) = rR U := by rw [← hlt]; rfl
              have hRS : AV.ro j SM = rI S := by rw [← hSM, ← hlS]; rfl
              have hSMl : SM.length = j := by rw [← hSM, List.length_map, hlS]
              have hSMt : List.take j SM = SM := List.take_of_length_le (by omega)
              generalize hum : U.map rI = um at *
              have hUt : List.take t um = um := List.take_of_length_le (by omega)
              have hwI : IntKind.i64.wrap ((t : Int) + 1) = (t : Int) + 1 := wrap_i64 (by omega) (by omega)
              by_cases ht1 : t + 1 < k
              · have hb6 : bad6 = true := hot.resolve_left (by omega)
                subst hb6
                have ht1' : (t : Int) + 1 < (k : Int) := by omega
                have ht1n : t = 0 → (1 : Int) < (k : Int) := fun _ => by omega
                by_cases ht0 : t = 0
                · subst ht0
                  simp at hwI
                  have ht1' := ht1n rfl
                  have hR0 : AV.ro 0 [] = rR U := by rw [← hRU, List.length_eq_zero_iff.1 hUm]
                  simp [beqI, bneI, mm_min2, mm_max2, mm_min3, mm_max3, startE, lkE, lkX, lkE_rest, sx, substE, opVA, objs0, List.replicate, XA_seq, XA_region, XOA_go, goE_someA, opV, ev, putA, layAll, XOA_nil, XA_skip_seq, XA_skip_nil, XOA_gd, goG_tA, goG_uA, binV, bi_add, bi_sub, bi_mul, bi_quo, bi_rem, bi_eql, bi_neq, bi_lss, bi_leq, bi_gtr, bi_geq, bi_shl, bi_shr, bi_and, bi_or, bi_xor, unV, XA_ret_nil, XA_ret_cons, endFA_r, endFA_n, endTA_r, endTA_n, endRA_r, endRA_n, fltR, resultsA, resAs, resA, XA_block, XA_cond, pickX_t, pickX_f, pickX_b, XA_skip_blk, XA_skip_lp, XA_exit_seq, XA_exit_lp, XA_exit_blk, XA_exit_nil, load1, Ev.loadCells, objCells, bodyCells, setCells, AV.flat, AV.flat1, backR, backV, backCell, mapO, AV.cells, AV.atom, AV.tree, fillV, repeatL, treeCell, freezeAll, eqCells, callV_T, callV_F, passV, passCell, srcCells, sliceBounds, hiB, loB, thenQ_nA, thenQ_xA, thenQ_rA, runK_nA, runK_xA, runK_rA, wrap_i64, wrap_u64, wrap_u32, wrap_u8, wrap_u16, callV_O, okIds, passObjs, passBody, backObjs, backBody, adopts, List.idxOf?, List.findIdx?, List.findIdx?.go, AV.atom, normA, lkE, fixObjs, fixBody, fixV, fixCell, vR, hB', nlOr, nlObj, hj0, hS0, hwI, ht1', hUt, hUm, hSMt, hSMl, hw, hl, ← hR0, ← hRS, hi0, hi', hg1, hg2, hfl]
                · simp [beqI, bneI, mm_min2, mm_max2, mm_min3, mm_max3, startE, lkE, lkX, lkE_rest, sx, substE, opVA, objs0, List.replicate, XA_seq, XA_region, XOA_go, goE_someA, opV, ev, putA, layAll, XOA_nil, XA_skip_seq, XA_skip_nil, XOA_gd, goG_tA, goG_uA, binV, bi_add, bi_sub, bi_mul, bi_quo, bi_rem, bi_eql, bi_neq, bi_lss, bi_leq, bi_gtr, bi_geq, bi_shl, bi_shr, bi_and, bi_or, bi_xor, unV, XA_ret_nil, XA_ret_cons, endFA_r, endFA_n, endTA_r, endTA_n, endRA_r, endRA_n, fltR, resultsA, resAs, resA, XA_block, XA_cond, pickX_t, pickX_f, pickX_b, XA_skip_blk, XA_skip_lp, XA_exit_seq, XA_exit_lp, XA_exit_blk, XA_exit_nil, load1, Ev.loadCells, objCells, bodyCells, setCells, AV.flat, AV.flat1, backR, backV, backCell, mapO, AV.cells, AV.atom, AV.tree, fillV, repeatL, treeCell, freezeAll, eqCells, callV_T, callV_F, passV, passCell, srcCells, sliceBounds, hiB, loB, thenQ_nA, thenQ_xA, thenQ_rA, runK_nA, runK_xA, runK_rA, wrap_i64, wrap_u64, wrap_u32, wrap_u8, wrap_u16, callV_O, okIds, passObjs, passBody, backObjs, backBody, adopts, List.idxOf?, List.findIdx?, List.findIdx?.go, AV.atom, normA, lkE, fixObjs, fixBody, fixV, fixCell, vR, hB', nlOr, nlObj, hj0, hS0, ht0, hwI, ht1', hUt, hUm, hSMt, hSMl, hw, hl, ← hRU, ← hRS, hi0, hi', hg1, hg2, hfl]
              · have ht1' : ¬ (t : Int) + 1 < (k : Int) := by omega
                have ht1n : t = 0 → ¬ (1 : Int) < (k : Int) := fun _ => by omega
                by_cases ht0 : t = 0
                · subst ht0
                  simp at hwI
                  have ht1' := ht1n rfl
                  have hR0 : AV.ro 0 [] = rR U := by rw [← hRU, List.length_eq_zero_iff.1 hUm]
                  simp [beqI, bneI, mm_min2, mm_max2, mm_min3, mm_max3, startE, lkE, lkX, lkE_rest, sx, substE, opVA, objs0, List.replicate, XA_seq, XA_region, XOA_go, goE_someA, opV, ev, putA, layAll, XOA_nil, XA_skip_seq, XA_skip_nil, XOA_gd, goG_tA, goG_uA, binV, bi_add, bi_sub, bi_mul, bi_quo, bi_rem, bi_eql, bi_neq, bi_lss, bi_leq, bi_gtr, bi_geq, bi_shl, bi_shr, bi_and, bi_or, bi_xor, unV, XA_ret_nil, XA_ret_cons, endFA_r, endFA_n, endTA_r, endTA_n, endRA_r, endRA_n, fltR, resultsA, resAs, resA, XA_block, XA_cond, pickX_t, pickX_f, pickX_b, XA_skip_blk, XA_skip_lp, XA_exit_seq, XA_exit_lp, XA_exit_blk, XA_exit_nil, load1, Ev.loadCells, objCells, bodyCells, setCells, AV.flat, AV.flat1, backR, backV, backCell, mapO, AV.cells, AV.atom, AV.tree, fillV, repeatL, treeCell, freezeAll, eqCells, callV_T, callV_F, passV, passCell, srcCells, sliceBounds, hiB, loB, thenQ_nA, thenQ_xA, thenQ_rA, runK_nA, runK_xA, runK_rA, wrap_i64, wrap_u64, wrap_u32, wrap_u8, wrap_u16, callV_O, okIds, passObjs, passBody, backObjs, backBody, adopts, List.idxOf?, List.findIdx?, List.findIdx?.go, AV.atom, normA, lkE, fixObjs, fixBody, fixV, fixCell, vR, hB', nlOr, nlObj, hj0, hS0, hwI, ht1', hUt, hUm, hSMt, hSMl, hw, hl, ← hR0, ← hRS, hi0, hi', hg1, hg2, hfl]
                · simp [beqI, bneI, mm_min2, mm_max2, mm_min3, mm_max3, startE, lkE, lkX, lkE_rest, sx, substE, opVA, objs0, List.replicate, XA_seq, XA_region, XOA_go, goE_someA, opV, ev, putA, layAll, XOA_nil, XA_skip_seq, XA_skip_nil, XOA_gd, goG_tA, goG_uA, binV, bi_add, bi_sub, bi_mul, bi_quo, bi_rem, bi_eql, bi_neq, bi_lss, bi_leq, bi_gtr, bi_geq, bi_shl, bi_shr, bi_and, bi_or, bi_xor, unV, XA_ret_nil, XA_ret_cons, endFA_r, endFA_n, endTA_r, endTA_n, endRA_r, endRA_n, fltR, resultsA, resAs, resA, XA_block, XA_cond, pickX_t, pickX_f, pickX_b, XA_skip_blk, XA_skip_lp, XA_exit_seq, XA_exit_lp, XA_exit_blk, XA_exit_nil, load1, Ev.loadCells, objCells, bodyCells, setCells, AV.flat, AV.flat1, backR, backV, backCell, mapO, AV.cells, AV.atom, AV.tree, fillV, repeatL, treeCell, freezeAll, eqCells, callV_T, callV_F, passV, passCell, srcCells, sliceBounds, hiB, loB, thenQ_nA, thenQ_xA, thenQ_rA, runK_nA, runK_xA, runK_rA, wrap_i64, wrap_u64, wrap_u32, wrap_u8, wrap_u16, callV_O, okIds, passObjs, passBody, backObjs, backBody, adopts, List.idxOf?, List.findIdx?, List.findIdx?.go, AV.atom, normA, lkE, fixObjs, fixBody, fixV, fixCell, vR, hB', nlOr, nlObj, hj0, hS0, ht0, hwI, ht1', hUt, hUm, hSMt, hSMl, hw, hl, ← hRU, ← hRS, hi0, hi', hg1, hg2, hfl]

          · have hjE : ¬ (0 : Int) < (k : Int) := by omega
            have hjN : ¬ 0 < k := by omega
            simp [beqI, bneI, mm_min2, mm_max2, mm_min3, mm_max3, startE, lkE, lkX, lkE_rest, sx, substE, opVA, objs0, List.replicate, XA_seq, XA_region, XOA_go, goE_someA, opV, ev, putA, layAll, XOA_nil, XA_skip_seq, XA_skip_nil, XOA_gd, goG_tA, goG_uA, binV, bi_add, bi_sub, bi_mul, bi_quo, bi_rem, bi_eql, bi_neq, bi_lss, bi_leq, bi_gtr, bi_geq, bi_shl, bi_shr, bi_and, bi_or, bi_xor, unV, XA_ret_nil, XA_ret_cons, endFA_r, endFA_n, endTA_r, endTA_n, endRA_r, endRA_n, fltR, resultsA, resAs, resA, XA_block, XA_cond, pickX_t, pickX_f, pickX_b, XA_skip_blk, XA_skip_lp, XA_exit_seq, XA_exit_lp, XA_exit_blk, XA_exit_nil, load1, Ev.loadCells, objCells, bodyCells, setCells, AV.flat, AV.flat1, backR, backV, backCell, mapO, AV.cells, AV.atom, AV.tree, fillV, repeatL, treeCell, freezeAll, eqCells, callV_T, callV_F, passV, passCell, srcCells, sliceBounds, hiB, loB, thenQ_nA, thenQ_xA, thenQ_rA, runK_nA, runK_xA, runK_rA, wrap_i64, wrap_u64, wrap_u32, wrap_u8, wrap_u16, callV_O, okIds, passObjs, passBody, backObjs, backBody, adopts, List.idxOf?, List.findIdx?, List.findIdx?.go, AV.atom, normA, lkE, fixObjs, fixBody, fixV, fixCell, vR, hB', nlOr, nlObj, hj0, hS0, hjE, hjN]
            rw [← hB']
            refine XA_until (fun t => ⟨[(0, B), (2, .ptr 0 0 0), (4, .ptr 1 0 0), (5, .ptr 2 0 0), (6, .int .i64 n), (7, .int .i64 i), (8, .ptr 3 0 0), (9, .int .i64 k), (11, .int .i64 t)], [⟨0, .var [.nilsl, .int .i64 0]⟩, vR (upP numR stR S t s5).2, ⟨0, .var [.own 7 0 0 i 2, .int .i64 m]⟩, ⟨0, .var [.nilsl, nlOr 6 1 t]⟩, ⟨0, .none⟩, ⟨0, .none⟩, nlObj 1 t ((upP numR stR S t s5).1.map rI), ⟨0, .row true 2 fl⟩]⟩)
              (fun t => (upP numR stR S t s5).1.length = t) (fun t => (upP numR stR S t s5).2.2 = true) (k - 1) 0 (Nat.zero_le _) (by simp [AV.atom, normA, lkE, fixObjs, fixBody, fixV, fixCell, vR, upP, rep, nlOr, nlObj, hB', hj0, hS0, hjE, hjN]) rfl ?_ ?_
            · intro t _ ht hbt hlt
              have hPt := upP_inv stR numR_I S hS.2.2 hS.2.1 t
              have hst : upP numR stR S (t + 1) s5 = upF numR stR S (upP numR stR S t s5) := repR_succ hbt
              have hbad5 : s5.2 = false := upP_mono numR_P S t s5 (by simpa using hbt)
              have hSk : S.length = k := by
                have := listR_bad k 40 s4 (by rw [hfin]; exact hbad5) h3s
                rw [hfin] at this
                exact this
              omega
            · intro t _ htk hot hlt
              have hft : upP numR stR S (k - 1) s5 = upP numR stR S t s5 := by
                rcases hot with rfl | h
                · rfl
                · exact rep_stuck (f := upF numR stR S) h _ htk
              rw [hft]
              clear hft
              generalize upP numR stR S t s5 = pt at *
              obtain ⟨U, b6, bad6⟩ := pt
              simp only at hlt hot
              have hUm : (U.map rI).length = t := by rw [List.length_map, hlt]
              have hRU : AV.ro t (U.map rI) = rR U := by rw [← hlt]; rfl
              have hRS : AV.ro j SM = rI S := by rw [← hSM, ← hlS]; rfl
              have hSMl : SM.length = j := by rw [← hSM, List.length_map, hlS]
              have hSMt : List.take j SM = SM := List.take_of_length_le (by omega)
              generalize hum : U.map rI = um at *
              have hUt : List.take t um = um := List.take_of_length_le (by omega)
              have hwI : IntKind.i64.wrap ((t : Int) + 1) = (t : Int) + 1 := wrap_i64 (by omega) (by omega)
              by_cases ht1 : t + 1 < k
              · have hb6 : bad6 = true := hot.resolve_left (by omega)
                subst hb6
                have ht1' : (t : Int) + 1 < (k : Int) := by omega
                have ht1n : t = 0 → (1 : Int) < (k : Int) := fun _ => by omega
                by_cases ht0 : t = 0
                · subst ht0
                  simp at hwI
                  have ht1' := ht1n rfl
                  have hR0 : AV.ro 0 [] = rR U := by rw [← hRU, List.length_eq_zero_iff.1 hUm]
                  simp [beqI, bneI, mm_min2, mm_max2, mm_min3, mm_max3, startE, lkE, lkX, lkE_rest, sx, substE, opVA, objs0, List.replicate, XA_seq, XA_region, XOA_go, goE_someA, opV, ev, putA, layAll, XOA_nil, XA_skip_seq, XA_skip_nil, XOA_gd, goG_tA, goG_uA, binV, bi_add, bi_sub, bi_mul, bi_quo, bi_rem, bi_eql, bi_neq, bi_lss, bi_leq, bi_gtr, bi_geq, bi_shl, bi_shr, bi_and, bi_or, bi_xor, unV, XA_ret_nil, XA_ret_cons, endFA_r, endFA_n, endTA_r, endTA_n, endRA_r, endRA_n, fltR, resultsA, resAs, resA, XA_block, XA_cond, pickX_t, pickX_f, pickX_b, XA_skip_blk, XA_skip_lp, XA_exit_seq, XA_exit_lp, XA_exit_blk, XA_exit_nil, load1, Ev.loadCells, objCells, bodyCells, setCells, AV.flat, AV.flat1, backR, backV, backCell, mapO, AV.cells, AV.atom, AV.tree, fillV, repeatL, treeCell, freezeAll, eqCells, callV_T, callV_F, passV, passCell, srcCells, sliceBounds, hiB, loB, thenQ_nA, thenQ_xA, thenQ_rA, runK_nA, runK_xA, runK_rA, wrap_i64, wrap_u64, wrap_u32, wrap_u8, wrap_u16, callV_O, okIds, passObjs, passBody, backObjs, backBody, adopts, List.idxOf?, List.findIdx?, List.findIdx?.go, AV.atom, normA, lkE, fixObjs, fixBody, fixV, fixCell, vR, hB', nlOr, nlObj, hj0, hS0, hwI, ht1', hUt, hUm, hSMt, hSMl, hw, hl, ← hR0, ← hRS, hi0, hi', hg1, hg2, hfl]
                · simp [beqI, bneI, mm_min2, mm_max2, mm_min3, mm_max3, startE, lkE, lkX, lkE_rest, sx, substE, opVA, objs0, List.replicate, XA_seq, XA_region, XOA_go, goE_someA, opV, ev, putA, layAll, XOA_nil, XA_skip_seq, XA_skip_nil, XOA_gd, goG_tA, goG_uA, binV, bi_add, bi_sub, bi_mul, bi_quo, bi_rem, bi_eql, bi_neq, bi_lss, bi_leq, bi_gtr, bi_geq, bi_shl, bi_shr, bi_and, bi_or, bi_xor, unV, XA_ret_nil, XA_ret_cons, endFA_r, endFA_n, endTA_r, endTA_n, endRA_r, endRA_n, fltR, resultsA, resAs, resA, XA_block, XA_cond, pickX_t, pickX_f, pickX_b, XA_skip_blk, XA_skip_lp, XA_exit_seq, XA_exit_lp, XA_exit_blk, XA_exit_nil, load1, Ev.loadCells, objCells, bodyCells, setCells, AV.flat, AV.flat1, backR, backV, backCell, mapO, AV.cells, AV.atom, AV.tree, fillV, repeatL, treeCell, freezeAll, eqCells, callV_T, callV_F, passV, passCell, srcCells, sliceBounds, hiB, loB, thenQ_nA, thenQ_xA, thenQ_rA, runK_nA, runK_xA, runK_rA, wrap_i64, wrap_u64, wrap_u32, wrap_u8, wrap_u16, callV_O, okIds, passObjs, passBody, backObjs, backBody, adopts, List.idxOf?, List.findIdx?, List.findIdx?.go, AV.atom, normA, lkE, fixObjs, fixBody, fixV, fixCell, vR, hB', nlOr, nlObj, hj0, hS0, ht0, hwI, ht1', hUt, hUm, hSMt, hSMl, hw, hl, ← hRU, ← hRS, hi0, hi', hg1, hg2, hfl]
              · have ht1' : ¬ (t : Int) + 1 < (k : Int) := by omega
                have ht1n : t = 0 → ¬ (1 : Int) < (k : Int) := fun _ => by omega
                by_cases ht0 : t = 0
                · subst ht0
                  simp at hwI
                  have ht1' := ht1n rfl
                  have hR0 : AV.ro 0 [] = rR U := by rw [← hRU, List.length_eq_zero_iff.1 hUm]
                  simp [beqI, bneI, mm_min2, mm_max2, mm_min3, mm_max3, startE, lkE, lkX, lkE_rest, sx, substE, opVA, objs0, List.replicate, XA_seq, XA_region, XOA_go, goE_someA, opV, ev, putA, layAll, XOA_nil, XA_skip_seq, XA_skip_nil, XOA_gd, goG_tA, goG_uA, binV, bi_add, bi_sub, bi_mul, bi_quo, bi_rem, bi_eql, bi_neq, bi_lss, bi_leq, bi_gtr, bi_geq, bi_shl, bi_shr, bi_and, bi_or, bi_xor, unV, XA_ret_nil, XA_ret_cons, endFA_r, endFA_n, endTA_r, endTA_n, endRA_r, endRA_n, fltR, resultsA, resAs, resA, XA_block, XA_cond, pickX_t, pickX_f, pickX_b, XA_skip_blk, XA_skip_lp, XA_exit_seq, XA_exit_lp, XA_exit_blk, XA_exit_nil, load1, Ev.loadCells, objCells, bodyCells, setCells, AV.flat, AV.flat1, backR, backV, backCell, mapO, AV.cells, AV.atom, AV.tree, fillV, repeatL, treeCell, freezeAll, eqCells, callV_T, callV_F, passV, passCell, srcCells, sliceBounds, hiB, loB, thenQ_nA, thenQ_xA, thenQ_rA, runK_nA, runK_xA, runK_rA, wrap_i64, wrap_u64, wrap_u32, wrap_u8, wrap_u16, callV_O, okIds, passObjs, passBody, backObjs, backBody, adopts, List.idxOf?, List.findIdx?, List.findIdx?.go, AV.atom, normA, lkE, fixObjs, fixBody, fixV, fixCell, vR, hB', nlOr, nlObj, hj0, hS0, hwI, ht1', hUt, hUm, hSMt, hSMl, hw, hl, ← hR0, ← hRS, hi0, hi', hg1, hg2, hfl]
                · simp [beqI, bneI, mm_min2, mm_max2, mm_min3, mm_max3, startE, lkE, lkX, lkE_rest, sx, substE, opVA, objs0, List.replicate, XA_seq, XA_region, XOA_go, goE_someA, opV, ev, putA, layAll, XOA_nil, XA_skip_seq, XA_skip_nil, XOA_gd, goG_tA, goG_uA, binV, bi_add, bi_sub, bi_mul, bi_quo, bi_rem, bi_eql, bi_neq, bi_lss, bi_leq, bi_gtr, bi_geq, bi_shl, bi_shr, bi_and, bi_or, bi_xor, unV, XA_ret_nil, XA_ret_cons, endFA_r, endFA_n, endTA_r, endTA_n, endRA_r, endRA_n, fltR, resultsA, resAs, resA, XA_block, XA_cond, pickX_t, pickX_f, pickX_b, XA_skip_blk, XA_skip_lp, XA_exit_seq, XA_exit_lp, XA_exit_blk, XA_exit_nil, load1, Ev.loadCells, objCells, bodyCells, setCells, AV.flat, AV.flat1, backR, backV, backCell, mapO, AV.cells, AV.atom, AV.tree, fillV, repeatL, treeCell, freezeAll, eqCells, callV_T, callV_F, passV, passCell, srcCells, sliceBounds, hiB, loB, thenQ_nA, thenQ_xA, thenQ_rA, runK_nA, runK_xA, runK_rA, wrap_i64, wrap_u64, wrap_u32, wrap_u8, wrap_u16, callV_O, okIds, passObjs, passBody, backObjs, backBody, adopts, List.idxOf?, List.findIdx?, List.findIdx?.go, AV.atom, normA, lkE, fixObjs, fixBody, fixV, fixCell, vR, hB', nlOr, nlObj, hj0, hS0, ht0, hwI, ht1', hUt, hUm, hSMt, hSMl, hw, hl, ← hRU, ← hRS, hi0, hi', hg1, hg2, hfl]

        · by_cases hjlt : j < k
          · have hb5 : s5.2 = true := hoj.resolve_left (by omega)
            have hjE : (j : Int) < (k : Int) := by omega
            simp [beqI, bneI, mm_min2, mm_max2, mm_min3, mm_max3, startE, lkE, lkX, lkE_rest, sx, substE, opVA, objs0, List.replicate, XA_seq, XA_region, XOA_go, goE_someA, opV, ev, putA, layAll, XOA_nil, XA_skip_seq, XA_skip_nil, XOA_gd, goG_tA, goG_uA, binV, bi_add, bi_sub, bi_mul, bi_quo, bi_rem, bi_eql, bi_neq, bi_lss, bi_leq, bi_gtr, bi_geq, bi_shl, bi_shr, bi_and, bi_or, bi_xor, unV, XA_ret_nil, XA_ret_cons, endFA_r, endFA_n, endTA_r, endTA_n, endRA_r, endRA_n, fltR, resultsA, resAs, resA, XA_block, XA_cond, pickX_t, pickX_f, pickX_b, XA_skip_blk, XA_skip_lp, XA_exit_seq, XA_exit_lp, XA_exit_blk, XA_exit_nil, load1, Ev.loadCells, objCells, bodyCells, setCells, AV.flat, AV.flat1, backR, backV, backCell, mapO, AV.cells, AV.atom, AV.tree, fillV, repeatL, treeCell, freezeAll, eqCells, callV_T, callV_F, passV, passCell, srcCells, sliceBounds, hiB, loB, thenQ_nA, thenQ_xA, thenQ_rA, runK_nA, runK_xA, runK_rA, wrap_i64, wrap_u64, wrap_u32, wrap_u8, wrap_u16, callV_O, okIds, passObjs, passBody, backObjs, backBody, adopts, List.idxOf?, List.findIdx?, List.findIdx?.go, AV.atom, normA, lkE, fixObjs, fixBody, fixV, fixCell, vR, hB', nlOr, nlObj, hj0, hjE, hb5]
            rw [← hB']
            refine XA_until (fun t => ⟨[(0, B), (2, .ptr 0 0 0), (4, .ptr 1 0 0), (5, .ptr 2 0 0), (6, .int .i64 n), (7, .int .i64 i), (8, .ptr 3 0 0), (9, .int .i64 k), (11, .int .i64 t)], [⟨0, .var [.nilsl, .int .i64 0]⟩, vR (upP numR stR S t s5).2, ⟨0, .var [.own 7 0 0 i 2, .int .i64 m]⟩, ⟨0, .var [.own 4 0 0 j 1, nlOr 6 1 t]⟩, ⟨0, .row true 1 SM⟩, ⟨0, .none⟩, nlObj 1 t ((upP numR stR S t s5).1.map rI), ⟨0, .row true 2 fl⟩]⟩)
              (fun t => (upP numR stR S t s5).1.length = t) (fun t => (upP numR stR S t s5).2.2 = true) (k - 1) 0 (Nat.zero_le _) (by simp [AV.atom, normA, lkE, fixObjs, fixBody, fixV, fixCell, vR, upP, rep, nlOr, nlObj, hB', hj0, hjE, hb5]) rfl ?_ ?_
            · intro t _ ht hbt hlt
              have hPt := upP_inv stR numR_I S hS.2.2 hS.2.1 t
              have hst : upP numR stR S (t + 1) s5 = upF numR stR S (upP numR stR S t s5) := repR_succ hbt
              have hbad5 : s5.2 = false := upP_mono numR_P S t s5 (by simpa using hbt)
              have hSk : S.length = k := by
                have := listR_bad k 40 s4 (by rw [hfin]; exact hbad5) h3s
                rw [hfin] at this
                exact this
              rw [hb5] at hbad5
              cases hbad5
            · intro t _ htk hot hlt
              have hft : upP numR stR S (k - 1) s5 = upP numR stR S t s5 := by
                rcases hot with rfl | h
                · rfl
                · exact rep_stuck (f := upF numR stR S) h _ htk
              rw [hft]
              clear hft
              generalize upP numR stR S t s5 = pt at *
              obtain ⟨U, b6, bad6⟩ := pt
              simp only at hlt hot
              have hUm : (U.map rI).length = t := by rw [List.length_map, hlt]
              have hRU : AV.ro t (U.map rI) = rR U := by rw [← hlt]; rfl
              have hRS : AV.ro j SM = rI S := by rw [← hSM, ← hlS]; rfl
              have hSMl : SM.length = j := by rw [← hSM, List.length_map, hlS]
              have hSMt : List.take j SM = SM := List.take_of_length_le (by omega)
              generalize hum : U.map rI = um at *
              have hUt : List.take t um = um := List.take_of_length_le (by omega)
              have hwI : IntKind.i64.wrap ((t : Int) + 1) = (t : Int) + 1 := wrap_i64 (by omega) (by omega)
              by_cases ht1 : t + 1 < k
              · have hb6 : bad6 = true := hot.resolve_left (by omega)
                subst hb6
                have ht1' : (t : Int) + 1 < (k : Int) := by omega
                have ht1n : t = 0 → (1 : Int) < (k : Int) := fun _ => by omega
                by_cases ht0 : t = 0
                · subst ht0
                  simp at hwI
                  have ht1' := ht1n rfl
                  have hR0 : AV.ro 0 [] = rR U := by rw [← hRU, List.length_eq_zero_iff.1 hUm]
                  simp [beqI, bneI, mm_min2, mm_max2, mm_min3, mm_max3, startE, lkE, lkX, lkE_rest, sx, substE, opVA, objs0, List.replicate, XA_seq, XA_region, XOA_go, goE_someA, opV, ev, putA, layAll, XOA_nil, XA_skip_seq, XA_skip_nil, XOA_gd, goG_tA, goG_uA, binV, bi_add, bi_sub, bi_mul, bi_quo, bi_rem, bi_eql, bi_neq, bi_lss, bi_leq, bi_gtr, bi_geq, bi_shl, bi_shr, bi_and, bi_or, bi_xor, unV, XA_ret_nil, XA_ret_cons, endFA_r, endFA_n, endTA_r, endTA_n, endRA_r, endRA_n, fltR, resultsA, resAs, resA, XA_block, XA_cond, pickX_t, pickX_f, pickX_b, XA_skip_blk, XA_skip_lp, XA_exit_seq, XA_exit_lp, XA_exit_blk, XA_exit_nil, load1, Ev.loadCells, objCells, bodyCells, setCells, AV.flat, AV.flat1, backR, backV, backCell, mapO, AV.cells, AV.atom, AV.tree, fillV, repeatL, treeCell, freezeAll, eqCells, callV_T, callV_F, passV, passCell, srcCells, sliceBounds, hiB, loB, thenQ_nA, thenQ_xA, thenQ_rA, runK_nA, runK_xA, runK_rA, wrap_i64, wrap_u64, wrap_u32, wrap_u8, wrap_u16, callV_O, okIds, passObjs, passBody, backObjs, backBody, adopts, List.idxOf?, List.findIdx?, List.findIdx?.go, AV.atom, normA, lkE, fixObjs, fixBody, fixV, fixCell, vR, hB', nlOr, nlObj, hj0, hwI, ht1', hUt, hUm, hSMt, hSMl, hw, hl, ← hR0, ← hRS, hi0, hi', hg1, hg2, hfl]
                · simp [beqI, bneI, mm_min2, mm_max2, mm_min3, mm_max3, startE, lkE, lkX, lkE_rest, sx, substE, opVA, objs0, List.replicate, XA_seq, XA_region, XOA_go, goE_someA, opV, ev, putA, layAll, XOA_nil, XA_skip_seq, XA_skip_nil, XOA_gd, goG_tA, goG_uA, binV, bi_add, bi_sub, bi_mul, bi_quo, bi_rem, bi_eql, bi_neq, bi_lss, bi_leq, bi_gtr, bi_geq, bi_shl, bi_shr, bi_and, bi_or, bi_xor, unV, XA_ret_nil, XA_ret_cons, endFA_r, endFA_n, endTA_r, endTA_n, endRA_r, endRA_n, fltR, resultsA, resAs, resA, XA_block, XA_cond, pickX_t, pickX_f, pickX_b, XA_skip_blk, XA_skip_lp, XA_exit_seq, XA_exit_lp, XA_exit_blk, XA_exit_nil, load1, Ev.loadCells, objCells, bodyCells, setCells, AV.flat, AV.flat1, backR, backV, backCell, mapO, AV.cells, AV.atom, AV.tree, fillV, repeatL, treeCell, freezeAll, eqCells, callV_T, callV_F, passV, passCell, srcCells, sliceBounds, hiB, loB, thenQ_nA, thenQ_xA, thenQ_rA, runK_nA, runK_xA, runK_rA, wrap_i64, wrap_u64, wrap_u32, wrap_u8, wrap_u16, callV_O, okIds, passObjs, passBody, backObjs, backBody, adopts, List.idxOf?, List.findIdx?, List.findIdx?.go, AV.atom, normA, lkE, fixObjs, fixBody, fixV, fixCell, vR, hB', nlOr, nlObj, hj0, ht0, hwI, ht1', hUt, hUm, hSMt, hSMl, hw, hl, ← hRU, ← hRS, hi0, hi', hg1, hg2, hfl]
              · have ht1' : ¬ (t : Int) + 1 < (k : Int) := by omega
                have ht1n : t = 0 → ¬ (1 : Int) < (k : Int) := fun _ => by omega
                by_cases ht0 : t = 0
                · subst ht0
                  simp at hwI
                  have ht1' := ht1n rfl
                  have hR0 : AV.ro 0 [] = rR U := by rw [← hRU, List.length_eq_zero_iff.1 hUm]
                  simp [beqI, bneI, mm_min2, mm_max2, mm_min3, mm_max3, startE, lkE, lkX, lkE_rest, sx, substE, opVA, objs0, List.replicate, XA_seq, XA_region, XOA_go, goE_someA, opV, ev, putA, layAll, XOA_nil, XA_skip_seq, XA_skip_nil, XOA_gd, goG_tA, goG_uA, binV, bi_add, bi_sub, bi_mul, bi_quo, bi_rem, bi_eql, bi_neq, bi_lss, bi_leq, bi_gtr, bi_geq, bi_shl, bi_shr, bi_and, bi_or, bi_xor, unV, XA_ret_nil, XA_ret_cons, endFA_r, endFA_n, endTA_r, endTA_n, endRA_r, endRA_n, fltR, resultsA, resAs, resA, XA_block, XA_cond, pickX_t, pickX_f, pickX_b, XA_skip_blk, XA_skip_lp, XA_exit_seq, XA_exit_lp, XA_exit_blk, XA_exit_nil, load1, Ev.loadCells, objCells, bodyCells, setCells, AV.flat, AV.flat1, backR, backV, backCell, mapO, AV.cells, AV.atom, AV.tree, fillV, repeatL, treeCell, freezeAll, eqCells, callV_T, callV_F, passV, passCell, srcCells, sliceBounds, hiB, loB, thenQ_nA, thenQ_xA, thenQ_rA, runK_nA, runK_xA, runK_rA, wrap_i64, wrap_u64, wrap_u32, wrap_u8, wrap_u16, callV_O, okIds, passObjs, passBody, backObjs, backBody, adopts, List.idxOf?, List.findIdx?, List.findIdx?.go, AV.atom, normA, lkE, fixObjs, fixBody, fixV, fixCell, vR, hB', nlOr, nlObj, hj0, hwI, ht1', hUt, hUm, hSMt, hSMl, hw, hl, ← hR0, ← hRS, hi0, hi', hg1, hg2, hfl]
                · simp [beqI, bneI, mm_min2, mm_max2, mm_min3, mm_max3, startE, lkE, lkX, lkE_rest, sx, substE, opVA, objs0, List.replicate, XA_seq, XA_region, XOA_go, goE_someA, opV, ev, putA, layAll, XOA_nil, XA_skip_seq, XA_skip_nil, XOA_gd, goG_tA, goG_uA, binV, bi_add, bi_sub, bi_mul, bi_quo, bi_rem, bi_eql, bi_neq, bi_lss, bi_leq, bi_gtr, bi_geq, bi_shl, bi_shr, bi_and, bi_or, bi_xor, unV, XA_ret_nil, XA_ret_cons, endFA_r, endFA_n, endTA_r, endTA_n, endRA_r, endRA_n, fltR, resultsA, resAs, resA, XA_block, XA_cond, pickX_t, pickX_f, pickX_b, XA_skip_blk, XA_skip_lp, XA_exit_seq, XA_exit_lp, XA_exit_blk, XA_exit_nil, load1, Ev.loadCells, objCells, bodyCells, setCells, AV.flat, AV.flat1, backR, backV, backCell, mapO, AV.cells, AV.atom, AV.tree, fillV, repeatL, treeCell, freezeAll, eqCells, callV_T, callV_F, passV, passCell, srcCells, sliceBounds, hiB, loB, thenQ_nA, thenQ_xA, thenQ_rA, runK_nA, runK_xA, runK_rA, wrap_i64, wrap_u64, wrap_u32, wrap_u8, wrap_u16, callV_O, okIds, passObjs, passBody, backObjs, backBody, adopts, List.idxOf?, List.findIdx?, List.findIdx?.go, AV.atom, normA, lkE, fixObjs, fixBody, fixV, fixCell, vR, hB', nlOr, nlObj, hj0, ht0, hwI, ht1', hUt, hUm, hSMt, hSMl, hw, hl, ← hRU, ← hRS, hi0, hi', hg1, hg2, hfl]

          · have hjE : ¬ (j : Int) < (k : Int) := by omega
            simp [beqI, bneI, mm_min2, mm_max2, mm_min3, mm_max3, startE, lkE, lkX, lkE_rest, sx, substE, opVA, objs0, List.replicate, XA_seq, XA_region, XOA_go, goE_someA, opV, ev, putA, layAll, XOA_nil, XA_skip_seq, XA_skip_nil, XOA_gd, goG_tA, goG_uA, binV, bi_add, bi_sub, bi_mul, bi_quo, bi_rem, bi_eql, bi_neq, bi_lss, bi_leq, bi_gtr, bi_geq, bi_shl, bi_shr, bi_and, bi_or, bi_xor, unV, XA_ret_nil, XA_ret_cons, endFA_r, endFA_n, endTA_r, endTA_n, endRA_r, endRA_n, fltR, resultsA, resAs, resA, XA_block, XA_cond, pickX_t, pickX_f, pickX_b, XA_skip_blk, XA_skip_lp, XA_exit_seq, XA_exit_lp, XA_exit_blk, XA_exit_nil, load1, Ev.loadCells, objCells, bodyCells, setCells, AV.flat, AV.flat1, backR, backV, backCell, mapO, AV.cells, AV.atom, AV.tree, fillV, repeatL, treeCell, freezeAll, eqCells, callV_T, callV_F, passV, passCell, srcCells, sliceBounds, hiB, loB, thenQ_nA, thenQ_xA, thenQ_rA, runK_nA, runK_xA, runK_rA, wrap_i64, wrap_u64, wrap_u32, wrap_u8, wrap_u16, callV_O, okIds, passObjs, passBody, backObjs, backBody, adopts, List.idxOf?, List.findIdx?, List.findIdx?.go, AV.atom, normA, lkE, fixObjs, fixBody, fixV, fixCell, vR, hB', nlOr, nlObj, hj0, hjE]
            rw [← hB']
            refine XA_until (fun t => ⟨[(0, B), (2, .ptr 0 0 0), (4, .ptr 1 0 0), (5, .ptr 2 0 0), (6, .int .i64 n), (7, .int .i64 i), (8, .ptr 3 0 0), (9, .int .i64 k), (11, .int .i64 t)], [⟨0, .var [.nilsl, .int .i64 0]⟩, vR (upP numR stR S t s5).2, ⟨0, .var [.own 7 0 0 i 2, .int .i64 m]⟩, ⟨0, .var [.own 4 0 0 j 1, nlOr 6 1 t]⟩, ⟨0, .row true 1 SM⟩, ⟨0, .none⟩, nlObj 1 t ((upP numR stR S t s5).1.map rI), ⟨0, .row true 2 fl⟩]⟩)
              (fun t => (upP numR stR S t s5).1.length = t) (fun t => (upP numR stR S t s5).2.2 = true) (k - 1) 0 (Nat.zero_le _) (by simp [AV.atom, normA, lkE, fixObjs, fixBody, fixV, fixCell, vR, upP, rep, nlOr, nlObj, hB', hj0, hjE]) rfl ?_ ?_
            · intro t _ ht hbt hlt
              have hPt := upP_inv stR numR_I S hS.2.2 hS.2.1 t
              have hst : upP numR stR S (t + 1) s5 = upF numR stR S (upP numR stR S t s5) := repR_succ hbt
              have hbad5 : s5.2 = false := upP_mono numR_P S t s5 (by simpa using hbt)
              have hSk : S.length = k := by
                have := listR_bad k 40 s4 (by rw [hfin]; exact hbad5) h3s
                rw [hfin] at this
                exact this
              rw [hst]
              clear hst
              generalize hUU : upP numR stR S t s5 = pt at *
              obtain ⟨U, s6⟩ := pt
              simp only at hPt hlt hbt
              have h6 : s6.2 = false := by simpa using hbt
              have hUl : (U.map rI).length = t := by rw [List.length_map, hlt]
              have htS : t < S.length := by omega
              have hSt := hS.2.2 _ (List.getElem_mem htS)
              simp only [upF, hlt, gI_get _ _ htS]
              have hix : SM[t]? = some (.int .i64 S[t]) := by rw [← hSM]; simp [htS]
              obtain ⟨c, hcc⟩ := nat_of hSt.1
              rw [hcc] at hSt hix ⊢
              simp only [Int.toNat_natCast]
              have htj : (t : Int) < (j : Int) := by omega
              have hwt := wrap_succ t k (by omega) (by omega)
              have hb6 : s6 = (s6.1, false) := by rw [← h6]
              have hstep : True ∧ listP numR stR 40 c s6 = listP numR stR 40 c s6 := ⟨trivial, rfl⟩
              rcases Nat.eq_zero_or_pos t with ht0 | ht0
              · subst ht0
                have hU0 : U = [] := List.length_eq_zero_iff.1 hlt
                have z1 : (1 : Int) < k := by omega
                have z2 : (0 : Int) < j := by omega
                have z3 : 0 < j := by omega
                simp at hix hwt
                simp [beqI, bneI, mm_min2, mm_max2, mm_min3, mm_max3, startE, lkE, lkX, lkE_rest, sx, substE, opVA, objs0, List.replicate, XA_seq, XA_region, XOA_go, goE_someA, opV, ev, putA, layAll, XOA_nil, XA_skip_seq, XA_skip_nil, XOA_gd, goG_tA, goG_uA, binV, bi_add, bi_sub, bi_mul, bi_quo, bi_rem, bi_eql, bi_neq, bi_lss, bi_leq, bi_gtr, bi_geq, bi_shl, bi_shr, bi_and, bi_or, bi_xor, unV, XA_ret_nil, XA_ret_cons, endFA_r, endFA_n, endTA_r, endTA_n, endRA_r, endRA_n, fltR, resultsA, resAs, resA, XA_block, XA_cond, pickX_t, pickX_f, pickX_b, XA_skip_blk, XA_skip_lp, XA_exit_seq, XA_exit_lp, XA_exit_blk, XA_exit_nil, load1, Ev.loadCells, objCells, bodyCells, setCells, AV.flat, AV.flat1, backR, backV, backCell, mapO, AV.cells, AV.atom, AV.tree, fillV, repeatL, treeCell, freezeAll, eqCells, callV_T, callV_F, passV, passCell, srcCells, sliceBounds, hiB, loB, thenQ_nA, thenQ_xA, thenQ_rA, runK_nA, runK_xA, runK_rA, wrap_i64, wrap_u64, wrap_u32, wrap_u8, wrap_u16, callV_O, okIds, passObjs, passBody, backObjs, backBody, adopts, List.idxOf?, List.findIdx?, List.findIdx?.go, AV.atom, normA, lkE, fixObjs, fixBody, fixV, fixCell, vR, hB', nlOr, nlObj, h6, hj0, z1, z2, z3, hix, hwt]
                rw [← hB']
                refine XA_until (fun r => ⟨[(0, B), (2, .ptr 0 0 0), (4, .ptr 1 0 0), (5, .ptr 2 0 0), (6, .int .i64 n), (7, .int .i64 i), (8, .ptr 3 0 0), (9, .int .i64 k), (11, .int .i64 0), (12, .own 5 0 0 r 1), (13, .int .i64 r)], [⟨0, .var [.nilsl, .int .i64 0]⟩, vR (listP numR stR 40 r s6).2, ⟨0, .var [.own 7 0 0 i 2, .int .i64 m]⟩, ⟨0, .var [.own 4 0 0 j 1, .nilsl]⟩, ⟨0, .row true 1 SM⟩, ⟨0, .row true 1 ((listP numR stR 40 r s6).1.map (.int .i64))⟩, ⟨0, .none⟩, ⟨0, .row true 2 fl⟩]⟩)
                  (fun r => (listP numR stR 40 r s6).1.length = r) (fun r => (listP numR stR 40 r s6).2.2 = true) c 0 (Nat.zero_le _) (by simp [AV.atom, normA, lkE, fixObjs, fixBody, fixV, fixCell, vR, listP, rep, hB', h6, hj0, z1, z2, z3, hix, hwt]) rfl ?_ ?_
                · intro r _ hr hbr hlr
                  have hr' : (r : Int) < (c : Int) := by omega
                  have hPr := listP_inv stR numR_I (most := 40) (by omega) hPt.2.1 r
                  have hsr : listP numR stR 40 (r + 1) s6 = listF numR 40 (listP numR stR 40 r s6) := repR_succ hbr
                  rw [hsr]
                  clear hsr
                  generalize listP numR stR 40 r s6 = pr at *
                  obtain ⟨lr, br, badr⟩ := pr
                  simp only at hPr hlr hbr
                  have hbr := (Bool.not_eq_true badr).mp hbr
                  subst hbr
                  simp only [listF]
                  have e5 := numr_ev (br, false) 40 hPr.2.1
                  generalize numR 40 (br, false) = q5 at *
                  obtain ⟨u5, s7⟩ := q5
                  simp only [vR] at e5
                  have hwr := wrap_succ r c hr (by omega)
                  have r1 : (r + 1) * 8 ≤ 140737488355328 := by omega
                  have r2 : r + 1 < 4611686018427387904 := by omega
                  simp [beqI, bneI, mm_min2, mm_max2, mm_min3, mm_max3, startE, lkE, lkX, lkE_rest, sx, substE, opVA, objs0, List.replicate, XA_seq, XA_region, XOA_go, goE_someA, opV, ev, putA, layAll, XOA_nil, XA_skip_seq, XA_skip_nil, XOA_gd, goG_tA, goG_uA, binV, bi_add, bi_sub, bi_mul, bi_quo, bi_rem, bi_eql, bi_neq, bi_lss, bi_leq, bi_gtr, bi_geq, bi_shl, bi_shr, bi_and, bi_or, bi_xor, unV, XA_ret_nil, XA_ret_cons, endFA_r, endFA_n, endTA_r, endTA_n, endRA_r, endRA_n, fltR, resultsA, resAs, resA, XA_block, XA_cond, pickX_t, pickX_f, pickX_b, XA_skip_blk, XA_skip_lp, XA_exit_seq, XA_exit_lp, XA_exit_blk, XA_exit_nil, load1, Ev.loadCells, objCells, bodyCells, setCells, AV.flat, AV.flat1, backR, backV, backCell, mapO, AV.cells, AV.atom, AV.tree, fillV, repeatL, treeCell, freezeAll, eqCells, callV_T, callV_F, passV, passCell, srcCells, sliceBounds, hiB, loB, thenQ_nA, thenQ_xA, thenQ_rA, runK_nA, runK_xA, runK_rA, wrap_i64, wrap_u64, wrap_u32, wrap_u8, wrap_u16, callV_O, okIds, passObjs, passBody, backObjs, backBody, adopts, List.idxOf?, List.findIdx?, List.findIdx?.go, AV.atom, normA, lkE, fixObjs, fixBody, fixV, fixCell, vR, hB', hr', e5, hwr, r1, r2, hlr, nlOr, nlObj, hj0, z1, z2, z3, hix, hwt]
                · intro r _ hrc hor hlr
                  have hfr : listP numR stR 40 c s6 = listP numR stR 40 r s6 := by
                    rcases hor with rfl | h
                    · rfl
                    · exact rep_stuck (f := listF numR 40) h c hrc
                  rw [hfr] at hstep ⊢
                  clear hfr
                  generalize listP numR stR 40 r s6 = pr at *
                  obtain ⟨lr, br, badr⟩ := pr
                  simp only at hlr hor
                  have hrI : AV.ro r (lr.map (.int .i64)) = rI lr := by rw [← hlr]; rfl
                  have hml : (lr.map (AV.int .i64)).length = r := by rw [List.length_map, hlr]
                  generalize hmr : lr.map (AV.int .i64) = ml at *
                  have hmt : List.take r ml = ml := List.take_of_length_le (by omega)
                  by_cases hrlt : r < c
                  · have hbr : badr = true := hor.resolve_left (by omega)
                    subst hbr
                    have hr' : (r : Int) < (c : Int) := by omega
                    simp [beqI, bneI, mm_min2, mm_max2, mm_min3, mm_max3, startE, lkE, lkX, lkE_rest, sx, substE, opVA, objs0, List.replicate, XA_seq, XA_region, XOA_go, goE_someA, opV, ev, putA, layAll, XOA_nil, XA_skip_seq, XA_skip_nil, XOA_gd, goG_tA, goG_uA, binV, bi_add, bi_sub, bi_mul, bi_quo, bi_rem, bi_eql, bi_neq, bi_lss, bi_leq, bi_gtr, bi_geq, bi_shl, bi_shr, bi_and, bi_or, bi_xor, unV, XA_ret_nil, XA_ret_cons, endFA_r, endFA_n, endTA_r, endTA_n, endRA_r, endRA_n, fltR, resultsA, resAs, resA, XA_block, XA_cond, pickX_t, pickX_f, pickX_b, XA_skip_blk, XA_skip_lp, XA_exit_seq, XA_exit_lp, XA_exit_blk, XA_exit_nil, load1, Ev.loadCells, objCells, bodyCells, setCells, AV.flat, AV.flat1, backR, backV, backCell, mapO, AV.cells, AV.atom, AV.tree, fillV, repeatL, treeCell, freezeAll, eqCells, callV_T, callV_F, passV, passCell, srcCells, sliceBounds, hiB, loB, thenQ_nA, thenQ_xA, thenQ_rA, runK_nA, runK_xA, runK_rA, wrap_i64, wrap_u64, wrap_u32, wrap_u8, wrap_u16, callV_O, okIds, passObjs, passBody, backObjs, backBody, adopts, List.idxOf?, List.findIdx?, List.findIdx?.go, AV.atom, normA, lkE, fixObjs, fixBody, fixV, fixCell, vR, hB', hr', nlOr, nlObj, hmt, hml, hrI, hUl, hj0, z1, z2, z3, hix, hwt, hU0, hlt]
                  · have hr' : ¬ (r : Int) < (c : Int) := by omega
                    simp [beqI, bneI, mm_min2, mm_max2, mm_min3, mm_max3, startE, lkE, lkX, lkE_rest, sx, substE, opVA, objs0, List.replicate, XA_seq, XA_region, XOA_go, goE_someA, opV, ev, putA, layAll, XOA_nil, XA_skip_seq, XA_skip_nil, XOA_gd, goG_tA, goG_uA, binV, bi_add, bi_sub, bi_mul, bi_quo, bi_rem, bi_eql, bi_neq, bi_lss, bi_leq, bi_gtr, bi_geq, bi_shl, bi_shr, bi_and, bi_or, bi_xor, unV, XA_ret_nil, XA_ret_cons, endFA_r, endFA_n, endTA_r, endTA_n, endRA_r, endRA_n, fltR, resultsA, resAs, resA, XA_block, XA_cond, pickX_t, pickX_f, pickX_b, XA_skip_blk, XA_skip_lp, XA_exit_seq, XA_exit_lp, XA_exit_blk, XA_exit_nil, load1, Ev.loadCells, objCells, bodyCells, setCells, AV.flat, AV.flat1, backR, backV, backCell, mapO, AV.cells, AV.atom, AV.tree, fillV, repeatL, treeCell, freezeAll, eqCells, callV_T, callV_F, passV, passCell, srcCells, sliceBounds, hiB, loB, thenQ_nA, thenQ_xA, thenQ_rA, runK_nA, runK_xA, runK_rA, wrap_i64, wrap_u64, wrap_u32, wrap_u8, wrap_u16, callV_O, okIds, passObjs, passBody, backObjs, backBody, adopts, List.idxOf?, List.findIdx?, List.findIdx?.go, AV.atom, normA, lkE, fixObjs, fixBody, fixV, fixCell, vR, hB', hr', nlOr, nlObj, hmt, hml, hrI, hUl, hj0, z1, z2, z3, hix, hwt, hU0, hlt]
              · have ht0 : ¬ t = 0 := by omega
                have h1t : (t : Int) + 1 < (k : Int) := by omega
                have t1 : (t + 1) * 24 ≤ 140737488355328 := by omega
                have t2 : t + 1 < 4611686018427387904 := by omega
                simp [beqI, bneI, mm_min2, mm_max2, mm_min3, mm_max3, startE, lkE, lkX, lkE_rest, sx, substE, opVA, objs0, List.replicate, XA_seq, XA_region, XOA_go, goE_someA, opV, ev, putA, layAll, XOA_nil, XA_skip_seq, XA_skip_nil, XOA_gd, goG_tA, goG_uA, binV, bi_add, bi_sub, bi_mul, bi_quo, bi_rem, bi_eql, bi_neq, bi_lss, bi_leq, bi_gtr, bi_geq, bi_shl, bi_shr, bi_and, bi_or, bi_xor, unV, XA_ret_nil, XA_ret_cons, endFA_r, endFA_n, endTA_r, endTA_n, endRA_r, endRA_n, fltR, resultsA, resAs, resA, XA_block, XA_cond, pickX_t, pickX_f, pickX_b, XA_skip_blk, XA_skip_lp, XA_exit_seq, XA_exit_lp, XA_exit_blk, XA_exit_nil, load1, Ev.loadCells, objCells, bodyCells, setCells, AV.flat, AV.flat1, backR, backV, backCell, mapO, AV.cells, AV.atom, AV.tree, fillV, repeatL, treeCell, freezeAll, eqCells, callV_T, callV_F, passV, passCell, srcCells, sliceBounds, hiB, loB, thenQ_nA, thenQ_xA, thenQ_rA, runK_nA, runK_xA, runK_rA, wrap_i64, wrap_u64, wrap_u32, wrap_u8, wrap_u16, callV_O, okIds, passObjs, passBody, backObjs, backBody, adopts, List.idxOf?, List.findIdx?, List.findIdx?.go, AV.atom, normA, lkE, fixObjs, fixBody, fixV, fixCell, vR, hB', nlOr, nlObj, h6, hj0, ht0, h1t, htj, hix, hwt]
                rw [← hB']
                refine XA_until (fun r => ⟨[(0, B), (2, .ptr 0 0 0), (4, .ptr 1 0 0), (5, .ptr 2 0 0), (6, .int .i64 n), (7, .int .i64 i), (8, .ptr 3 0 0), (9, .int .i64 k), (11, .int .i64 t), (12, .own 5 0 0 r 1), (13, .int .i64 r)], [⟨0, .var [.nilsl, .int .i64 0]⟩, vR (listP numR stR 40 r s6).2, ⟨0, .var [.own 7 0 0 i 2, .int .i64 m]⟩, ⟨0, .var [.own 4 0 0 j 1, .own 6 0 0 t 1]⟩, ⟨0, .row true 1 SM⟩, ⟨0, .row true 1 ((listP numR stR 40 r s6).1.map (.int .i64))⟩, ⟨0, .row true 1 (U.map rI)⟩, ⟨0, .row true 2 fl⟩]⟩)
                  (fun r => (listP numR stR 40 r s6).1.length = r) (fun r => (listP numR stR 40 r s6).2.2 = true) c 0 (Nat.zero_le _) (by simp [AV.atom, normA, lkE, fixObjs, fixBody, fixV, fixCell, vR, listP, rep, hB', h6, hj0, ht0, h1t, htj, hix, hwt]) rfl ?_ ?_
                · intro r _ hr hbr hlr
                  have hr' : (r : Int) < (c : Int) := by omega
                  have hPr := listP_inv stR numR_I (most := 40) (by omega) hPt.2.1 r
                  have hsr : listP numR stR 40 (r + 1) s6 = listF numR 40 (listP numR stR 40 r s6) := repR_succ hbr
                  rw [hsr]
                  clear hsr
                  generalize listP numR stR 40 r s6 = pr at *
                  obtain ⟨lr, br, badr⟩ := pr
                  simp only at hPr hlr hbr
                  have hbr := (Bool.not_eq_true badr).mp hbr
                  subst hbr
                  simp only [listF]
                  have e5 := numr_ev (br, false) 40 hPr.2.1
                  generalize numR 40 (br, false) = q5 at *
                  obtain ⟨u5, s7⟩ := q5
                  simp only [vR] at e5
                  have hwr := wrap_succ r c hr (by omega)
                  have r1 : (r + 1) * 8 ≤ 140737488355328 := by omega
                  have r2 : r + 1 < 4611686018427387904 := by omega
                  simp [beqI, bneI, mm_min2, mm_max2, mm_min3, mm_max3, startE, lkE, lkX, lkE_rest, sx, substE, opVA, objs0, List.replicate, XA_seq, XA_region, XOA_go, goE_someA, opV, ev, putA, layAll, XOA_nil, XA_skip_seq, XA_skip_nil, XOA_gd, goG_tA, goG_uA, binV, bi_add, bi_sub, bi_mul, bi_quo, bi_rem, bi_eql, bi_neq, bi_lss, bi_leq, bi_gtr, bi_geq, bi_shl, bi_shr, bi_and, bi_or, bi_xor, unV, XA_ret_nil, XA_ret_cons, endFA_r, endFA_n, endTA_r, endTA_n, endRA_r, endRA_n, fltR, resultsA, resAs, resA, XA_block, XA_cond, pickX_t, pickX_f, pickX_b, XA_skip_blk, XA_skip_lp, XA_exit_seq, XA_exit_lp, XA_exit_blk, XA_exit_nil, load1, Ev.loadCells, objCells, bodyCells, setCells, AV.flat, AV.flat1, backR, backV, backCell, mapO, AV.cells, AV.atom, AV.tree, fillV, repeatL, treeCell, freezeAll, eqCells, callV_T, callV_F, passV, passCell, srcCells, sliceBounds, hiB, loB, thenQ_nA, thenQ_xA, thenQ_rA, runK_nA, runK_xA, runK_rA, wrap_i64, wrap_u64, wrap_u32, wrap_u8, wrap_u16, callV_O, okIds, passObjs, passBody, backObjs, backBody, adopts, List.idxOf?, List.findIdx?, List.findIdx?.go, AV.atom, normA, lkE, fixObjs, fixBody, fixV, fixCell, vR, hB', hr', e5, hwr, r1, r2, hlr, nlOr, nlObj, hj0, ht0, h1t, htj, hix, hwt]
                · intro r _ hrc hor hlr
                  have hfr : listP numR stR 40 c s6 = listP numR stR 40 r s6 := by
                    rcases hor with rfl | h
                    · rfl
                    · exact rep_stuck (f := listF numR 40) h c hrc
                  rw [hfr] at hstep ⊢
                  clear hfr
                  generalize listP numR stR 40 r s6 = pr at *
                  obtain ⟨lr, br, badr⟩ := pr
                  simp only at hlr hor
                  have hrI : AV.ro r (lr.map (.int .i64)) = rI lr := by rw [← hlr]; rfl
                  have hml : (lr.map (AV.int .i64)).length = r := by rw [List.length_map, hlr]
                  generalize hmr : lr.map (AV.int .i64) = ml at *
                  have hmt : List.take r ml = ml := List.take_of_length_le (by omega)
                  by_cases hrlt : r < c
                  · have hbr : badr = true := hor.resolve_left (by omega)
                    subst hbr
                    have hr' : (r : Int) < (c : Int) := by omega
                    simp [beqI, bneI, mm_min2, mm_max2, mm_min3, mm_max3, startE, lkE, lkX, lkE_rest, sx, substE, opVA, objs0, List.replicate, XA_seq, XA_region, XOA_go, goE_someA, opV, ev, putA, layAll, XOA_nil, XA_skip_seq, XA_skip_nil, XOA_gd, goG_tA, goG_uA, binV, bi_add, bi_sub, bi_mul, bi_quo, bi_rem, bi_eql, bi_neq, bi_lss, bi_leq, bi_gtr, bi_geq, bi_shl, bi_shr, bi_and, bi_or, bi_xor, unV, XA_ret_nil, XA_ret_cons, endFA_r, endFA_n, endTA_r, endTA_n, endRA_r, endRA_n, fltR, resultsA, resAs, resA, XA_block, XA_cond, pickX_t, pickX_f, pickX_b, XA_skip_blk, XA_skip_lp, XA_exit_seq, XA_exit_lp, XA_exit_blk, XA_exit_nil, load1, Ev.loadCells, objCells, bodyCells, setCells, AV.flat, AV.flat1, backR, backV, backCell, mapO, AV.cells, AV.atom, AV.tree, fillV, repeatL, treeCell, freezeAll, eqCells, callV_T, callV_F, passV, passCell, srcCells, sliceBounds, hiB, loB, thenQ_nA, thenQ_xA, thenQ_rA, runK_nA, runK_xA, runK_rA, wrap_i64, wrap_u64, wrap_u32, wrap_u8, wrap_u16, callV_O, okIds, passObjs, passBody, backObjs, backBody, adopts, List.idxOf?, List.findIdx?, List.findIdx?.go, AV.atom, normA, lkE, fixObjs, fixBody, fixV, fixCell, vR, hB', hr', nlOr, nlObj, hmt, hml, hrI, hUl, hj0, ht0, h1t, htj, hix, hwt, t1, t2, hlt]
                  · have hr' : ¬ (r : Int) < (c : Int) := by omega
                    simp [beqI, bneI, mm_min2, mm_max2, mm_min3, mm_max3, startE, lkE, lkX, lkE_rest, sx, substE, opVA, objs0, List.replicate, XA_seq, XA_region, XOA_go, goE_someA, opV, ev, putA, layAll, XOA_nil, XA_skip_seq, XA_skip_nil, XOA_gd, goG_tA, goG_uA, binV, bi_add, bi_sub, bi_mul, bi_quo, bi_rem, bi_eql, bi_neq, bi_lss, bi_leq, bi_gtr, bi_geq, bi_shl, bi_shr, bi_and, bi_or, bi_xor, unV, XA_ret_nil, XA_ret_cons, endFA_r, endFA_n, endTA_r, endTA_n, endRA_r, endRA_n, fltR, resultsA, resAs, resA, XA_block, XA_cond, pickX_t, pickX_f, pickX_b, XA_skip_blk, XA_skip_lp, XA_exit_seq, XA_exit_lp, XA_exit_blk, XA_exit_nil, load1, Ev.loadCells, objCells, bodyCells, setCells, AV.flat, AV.flat1, backR, backV, backCell, mapO, AV.cells, AV.atom, AV.tree, fillV, repeatL, treeCell, freezeAll, eqCells, callV_T, callV_F, passV, passCell, srcCells, sliceBounds, hiB, loB, thenQ_nA, thenQ_xA, thenQ_rA, runK_nA, runK_xA, runK_rA, wrap_i64, wrap_u64, wrap_u32, wrap_u8, wrap_u16, callV_O, okIds, passObjs, passBody, backObjs, backBody, adopts, List.idxOf?, List.findIdx?, List.findIdx?.go, AV.atom, normA, lkE, fixObjs, fixBody, fixV, fixCell, vR, hB', hr', nlOr, nlObj, hmt, hml, hrI, hUl, hj0, ht0, h1t, htj, hix, hwt, t1, t2, hlt]
            · intro t _ htk hot hlt
              have hft : upP numR stR S (k - 1) s5 = upP numR stR S t s5 := by
                rcases hot with rfl | h
                · rfl
                · exact rep_stuck (f := upF numR stR S) h _ htk
              rw [hft]
              clear hft
              generalize upP numR stR S t s5 = pt at *
              obtain ⟨U, b6, bad6⟩ := pt
              simp only at hlt hot
              have hUm : (U.map rI).length = t := by rw [List.length_map, hlt]
              have hRU : AV.ro t (U.map rI) = rR U := by rw [← hlt]; rfl
              have hRS : AV.ro j SM = rI S := by rw [← hSM, ← hlS]; rfl
              have hSMl : SM.length = j := by rw [← hSM, List.length_map, hlS]
              have hSMt : List.take j SM = SM := List.take_of_length_le (by omega)
              generalize hum : U.map rI = um at *
              have hUt : List.take t um = um := List.take_of_length_le (by omega)
              have hwI : IntKind.i64.wrap ((t : Int) + 1) = (t : Int) + 1 := wrap_i64 (by omega) (by omega)
              by_cases ht1 : t + 1 < k
              · have hb6 : bad6 = true := hot.resolve_left (by omega)
                subst hb6
                have ht1' : (t : Int) + 1 < (k : Int) := by omega
                have ht1n : t = 0 → (1 : Int) < (k : Int) := fun _ => by omega
                by_cases ht0 : t = 0
                · subst ht0
                  simp at hwI
                  have ht1' := ht1n rfl
                  have hR0 : AV.ro 0 [] = rR U := by rw [← hRU, List.length_eq_zero_iff.1 hUm]
                  simp [beqI, bneI, mm_min2, mm_max2, mm_min3, mm_max3, startE, lkE, lkX, lkE_rest, sx, substE, opVA, objs0, List.replicate, XA_seq, XA_region, XOA_go, goE_someA, opV, ev, putA, layAll, XOA_nil, XA_skip_seq, XA_skip_nil, XOA_gd, goG_tA, goG_uA, binV, bi_add, bi_sub, bi_mul, bi_quo, bi_rem, bi_eql, bi_neq, bi_lss, bi_leq, bi_gtr, bi_geq, bi_shl, bi_shr, bi_and, bi_or, bi_xor, unV, XA_ret_nil, XA_ret_cons, endFA_r, endFA_n, endTA_r, endTA_n, endRA_r, endRA_n, fltR, resultsA, resAs, resA, XA_block, XA_cond, pickX_t, pickX_f, pickX_b, XA_skip_blk, XA_skip_lp, XA_exit_seq, XA_exit_lp, XA_exit_blk, XA_exit_nil, load1, Ev.loadCells, objCells, bodyCells, setCells, AV.flat, AV.flat1, backR, backV, backCell, mapO, AV.cells, AV.atom, AV.tree, fillV, repeatL, treeCell, freezeAll, eqCells, callV_T, callV_F, passV, passCell, srcCells, sliceBounds, hiB, loB, thenQ_nA, thenQ_xA, thenQ_rA, runK_nA, runK_xA, runK_rA, wrap_i64, wrap_u64, wrap_u32, wrap_u8, wrap_u16, callV_O, okIds, passObjs, passBody, backObjs, backBody, adopts, List.idxOf?, List.findIdx?, List.findIdx?.go, AV.atom, normA, lkE, fixObjs, fixBody, fixV, fixCell, vR, hB', nlOr, nlObj, hj0, hwI, ht1', hUt, hUm, hSMt, hSMl, hw, hl, ← hR0, ← hRS, hi0, hi', hg1, hg2, hfl]
                · simp [beqI, bneI, mm_min2, mm_max2, mm_min3, mm_max3, startE, lkE, lkX, lkE_rest, sx, substE, opVA, objs0, List.replicate, XA_seq, XA_region, XOA_go, goE_someA, opV, ev, putA, layAll, XOA_nil, XA_skip_seq, XA_skip_nil, XOA_gd, goG_tA, goG_uA, binV, bi_add, bi_sub, bi_mul, bi_quo, bi_rem, bi_eql, bi_neq, bi_lss, bi_leq, bi_gtr, bi_geq, bi_shl, bi_shr, bi_and, bi_or, bi_xor, unV, XA_ret_nil, XA_ret_cons, endFA_r, endFA_n, endTA_r, endTA_n, endRA_r, endRA_n, fltR, resultsA, resAs, resA, XA_block, XA_cond, pickX_t, pickX_f, pickX_b, XA_skip_blk, XA_skip_lp, XA_exit_seq, XA_exit_lp, XA_exit_blk, XA_exit_nil, load1, Ev.loadCells, objCells, bodyCells, setCells, AV.flat, AV.flat1, backR, backV, backCell, mapO, AV.cells, AV.atom, AV.tree, fillV, repeatL, treeCell, freezeAll, eqCells, callV_T, callV_F, passV, passCell, srcCells, sliceBounds, hiB, loB, thenQ_nA, thenQ_xA, thenQ_rA, runK_nA, runK_xA, runK_rA, wrap_i64, wrap_u64, wrap_u32, wrap_u8, wrap_u16, callV_O, okIds, passObjs, passBody, backObjs, backBody, adopts, List.idxOf?, List.findIdx?, List.findIdx?.go, AV.atom, normA, lkE, fixObjs, fixBody, fixV, fixCell, vR, hB', nlOr, nlObj, hj0, ht0, hwI, ht1', hUt, hUm, hSMt, hSMl, hw, hl, ← hRU, ← hRS, hi0, hi', hg1, hg2, hfl]
              · have ht1' : ¬ (t : Int) + 1 < (k : Int) := by omega
                have ht1n : t = 0 → ¬ (1 : Int) < (k : Int) := fun _ => by omega
                by_cases ht0 : t = 0
                · subst ht0
                  simp at hwI
                  have ht1' := ht1n rfl
                  have hR0 : AV.ro 0 [] = rR U := by rw [← hRU, List.length_eq_zero_iff.1 hUm]
                  simp [beqI, bneI, mm_min2, mm_max2, mm_min3, mm_max3, startE, lkE, lkX, lkE_rest, sx, substE, opVA, objs0, List.replicate, XA_seq, XA_region, XOA_go, goE_someA, opV, ev, putA, layAll, XOA_nil, XA_skip_seq, XA_skip_nil, XOA_gd, goG_tA, goG_uA, binV, bi_add, bi_sub, bi_mul, bi_quo, bi_rem, bi_eql, bi_neq, bi_lss, bi_leq, bi_gtr, bi_geq, bi_shl, bi_shr, bi_and, bi_or, bi_xor, unV, XA_ret_nil, XA_ret_cons, endFA_r, endFA_n, endTA_r, endTA_n, endRA_r, endRA_n, fltR, resultsA, resAs, resA, XA_block, XA_cond, pickX_t, pickX_f, pickX_b, XA_skip_blk, XA_skip_lp, XA_exit_seq, XA_exit_lp, XA_exit_blk, XA_exit_nil, load1, Ev.loadCells, objCells, bodyCells, setCells, AV.flat, AV.flat1, backR, backV, backCell, mapO, AV.cells, AV.atom, AV.tree, fillV, repeatL, treeCell, freezeAll, eqCells, callV_T, callV_F, passV, passCell, srcCells, sliceBounds, hiB, loB, thenQ_nA, thenQ_xA, thenQ_rA, runK_nA, runK_xA, runK_rA, wrap_i64, wrap_u64, wrap_u32, wrap_u8, wrap_u16, callV_O, okIds, passObjs, passBody, backObjs, backBody, adopts, List.idxOf?, List.findIdx?, List.findIdx?.go, AV.atom, normA, lkE, fixObjs, fixBody, fixV, fixCell, vR, hB', nlOr, nlObj, hj0, hwI, ht1', hUt, hUm, hSMt, hSMl, hw, hl, ← hR0, ← hRS, hi0, hi', hg1, hg2, hfl]
                · simp [beqI, bneI, mm_min2, mm_max2, mm_min3, mm_max3, startE, lkE, lkX, lkE_rest, sx, substE, opVA, objs0, List.replicate, XA_seq, XA_region, XOA_go, goE_someA, opV, ev, putA, layAll, XOA_nil, XA_skip_seq, XA_skip_nil, XOA_gd, goG_tA, goG_uA, binV, bi_add, bi_sub, bi_mul, bi_quo, bi_rem, bi_eql, bi_neq, bi_lss, bi_leq, bi_gtr, bi_geq, bi_shl, bi_shr, bi_and, bi_or, bi_xor, unV, XA_ret_nil, XA_ret_cons, endFA_r, endFA_n, endTA_r, endTA_n, endRA_r, endRA_n, fltR, resultsA, resAs, resA, XA_block, XA_cond, pickX_t, pickX_f, pickX_b, XA_skip_blk, XA_skip_lp, XA_exit_seq, XA_exit_lp, XA_exit_blk, XA_exit_nil, load1, Ev.loadCells, objCells, bodyCells, setCells, AV.flat, AV.flat1, backR, backV, backCell, mapO, AV.cells, AV.atom, AV.tree, fillV, repeatL, treeCell, freezeAll, eqCells, callV_T, callV_F, passV, passCell, srcCells, sliceBounds, hiB, loB, thenQ_nA, thenQ_xA, thenQ_rA, runK_nA, runK_xA, runK_rA, wrap_i64, wrap_u64, wrap_u32, wrap_u8, wrap_u16, callV_O, okIds, passObjs, passBody, backObjs, backBody, adopts, List.idxOf?, List.findIdx?, List.findIdx?.go, AV.atom, normA, lkE, fixObjs, fixBody, fixV, fixCell, vR, hB', nlOr, nlObj, hj0, ht0, hwI, ht1', hUt, hUm, hSMt, hSMl, hw, hl, ← hRU, ← hRS, hi0, hi', hg1, hg2, hfl]

  · intro i _ hin hoi hl
    have hf : dimsP numR stR n s2 = dimsP numR stR i s2 := by
      rcases hoi with rfl | h
      · rfl
      · exact rep_stuck (f := dimF numR stR) h n hin
    rw [hf] at hI ⊢
    clear hf
    have hok := dimsP_ok stR numR_I h2s i (by omega)
    generalize dimsP numR stR i s2 = p at *
    obtain ⟨L, r, bad⟩ := p
    simp only at hl hok hoi hI
    have hg := rgood_ev L m hok
    have hby := rBytes_ev L m hok
    have hfl := flatD_two L
    have hLl : (flatD L).length = i * 2 := by rw [hfl, hl]
    have hft : List.take (i * 2) (flatD L) = flatD L := List.take_of_length_le (by omega)
    have ht : (flatD L).all AV.tree = true := List.all_eq_true.2 (flatD_trees L)
    rw [hl] at hg hby
    cases bad with
    | true =>
      by_cases hlt : i < n
      · have hlt' : (i : Int) < (n : Int) := by omega
        simp [beqI, bneI, mm_min2, mm_max2, mm_min3, mm_max3, startE, lkE, lkX, lkE_rest, sx, substE, opVA, objs0, List.replicate, XA_seq, XA_region, XOA_go, goE_someA, opV, ev, putA, layAll, XOA_nil, XA_skip_seq, XA_skip_nil, XOA_gd, goG_tA, goG_uA, binV, bi_add, bi_sub, bi_mul, bi_quo, bi_rem, bi_eql, bi_neq, bi_lss, bi_leq, bi_gtr, bi_geq, bi_shl, bi_shr, bi_and, bi_or, bi_xor, unV, XA_ret_nil, XA_ret_cons, endFA_r, endFA_n, endTA_r, endTA_n, endRA_r, endRA_n, fltR, resultsA, resAs, resA, XA_block, XA_cond, pickX_t, pickX_f, pickX_b, XA_skip_blk, XA_skip_lp, XA_exit_seq, XA_exit_lp, XA_exit_blk, XA_exit_nil, load1, Ev.loadCells, objCells, bodyCells, setCells, AV.flat, AV.flat1, backR, backV, backCell, mapO, AV.cells, AV.atom, AV.tree, fillV, repeatL, treeCell, freezeAll, eqCells, callV_T, callV_F, passV, passCell, srcCells, sliceBounds, hiB, loB, thenQ_nA, thenQ_xA, thenQ_rA, runK_nA, runK_xA, runK_rA, wrap_i64, wrap_u64, wrap_u32, wrap_u8, wrap_u16, callV_O, okIds, passObjs, passBody, backObjs, backBody, adopts, List.idxOf?, List.findIdx?, List.findIdx?.go, AV.atom, normA, lkE, fixObjs, fixBody, fixV, fixCell, vR, catV, hlt', hB']
      · have hlt' : ¬ (i : Int) < (n : Int) := by omega
        simp [beqI, bneI, mm_min2, mm_max2, mm_min3, mm_max3, startE, lkE, lkX, lkE_rest, sx, substE, opVA, objs0, List.replicate, XA_seq, XA_region, XOA_go, goE_someA, opV, ev, putA, layAll, XOA_nil, XA_skip_seq, XA_skip_nil, XOA_gd, goG_tA, goG_uA, binV, bi_add, bi_sub, bi_mul, bi_quo, bi_rem, bi_eql, bi_neq, bi_lss, bi_leq, bi_gtr, bi_geq, bi_shl, bi_shr, bi_and, bi_or, bi_xor, unV, XA_ret_nil, XA_ret_cons, endFA_r, endFA_n, endTA_r, endTA_n, endRA_r, endRA_n, fltR, resultsA, resAs, resA, XA_block, XA_cond, pickX_t, pickX_f, pickX_b, XA_skip_blk, XA_skip_lp, XA_exit_seq, XA_exit_lp, XA_exit_blk, XA_exit_nil, load1, Ev.loadCells, objCells, bodyCells, setCells, AV.flat, AV.flat1, backR, backV, backCell, mapO, AV.cells, AV.atom, AV.tree, fillV, repeatL, treeCell, freezeAll, eqCells, callV_T, callV_F, passV, passCell, srcCells, sliceBounds, hiB, loB, thenQ_nA, thenQ_xA, thenQ_rA, runK_nA, runK_xA, runK_rA, wrap_i64, wrap_u64, wrap_u32, wrap_u8, wrap_u16, callV_O, okIds, passObjs, passBody, backObjs, backBody, adopts, List.idxOf?, List.findIdx?, List.findIdx?.go, AV.atom, normA, lkE, fixObjs, fixBody, fixV, fixCell, vR, catV, hlt', hB']
    | false =>
      have hlt' : ¬ (i : Int) < (n : Int) := by
        rcases hoi with h | h
        · omega
        · cases h
      by_cases hr : r = []
      · subst hr
        by_cases h0 : i = 0
        · have hL : L = [] := List.length_eq_zero_iff.1 (by omega)
          subst hL
          have hgf : goodC [] m = false := by simp [goodC]
          rw [hgf, h0] at hg
          simp only [flatD] at hg
          have hz : ¬ 0 < n := by omega
          simp [beqI, bneI, mm_min2, mm_max2, mm_min3, mm_max3, startE, lkE, lkX, lkE_rest, sx, substE, opVA, objs0, List.replicate, XA_seq, XA_region, XOA_go, goE_someA, opV, ev, putA, layAll, XOA_nil, XA_skip_seq, XA_skip_nil, XOA_gd, goG_tA, goG_uA, binV, bi_add, bi_sub, bi_mul, bi_quo, bi_rem, bi_eql, bi_neq, bi_lss, bi_leq, bi_gtr, bi_geq, bi_shl, bi_shr, bi_and, bi_or, bi_xor, unV, XA_ret_nil, XA_ret_cons, endFA_r, endFA_n, endTA_r, endTA_n, endRA_r, endRA_n, fltR, resultsA, resAs, resA, XA_block, XA_cond, pickX_t, pickX_f, pickX_b, XA_skip_blk, XA_skip_lp, XA_exit_seq, XA_exit_lp, XA_exit_blk, XA_exit_nil, load1, Ev.loadCells, objCells, bodyCells, setCells, AV.flat, AV.flat1, backR, backV, backCell, mapO, AV.cells, AV.atom, AV.tree, fillV, repeatL, treeCell, freezeAll, eqCells, callV_T, callV_F, passV, passCell, srcCells, sliceBounds, hiB, loB, thenQ_nA, thenQ_xA, thenQ_rA, runK_nA, runK_xA, runK_rA, wrap_i64, wrap_u64, wrap_u32, wrap_u8, wrap_u16, callV_O, okIds, passObjs, passBody, backObjs, backBody, adopts, List.idxOf?, List.findIdx?, List.findIdx?.go, AV.atom, normA, lkE, fixObjs, fixBody, fixV, fixCell, vR, nlOr, nlObj, catV, h0, hg, hgf, hB', hz]
        · cases g : goodC L m with
          | false =>
            rw [g] at hg
            simp [beqI, bneI, mm_min2, mm_max2, mm_min3, mm_max3, startE, lkE, lkX, lkE_rest, sx, substE, opVA, objs0, List.replicate, XA_seq, XA_region, XOA_go, goE_someA, opV, ev, putA, layAll, XOA_nil, XA_skip_seq, XA_skip_nil, XOA_gd, goG_tA, goG_uA, binV, bi_add, bi_sub, bi_mul, bi_quo, bi_rem, bi_eql, bi_neq, bi_lss, bi_leq, bi_gtr, bi_geq, bi_shl, bi_shr, bi_and, bi_or, bi_xor, unV, XA_ret_nil, XA_ret_cons, endFA_r, endFA_n, endTA_r, endTA_n, endRA_r, endRA_n, fltR, resultsA, resAs, resA, XA_block, XA_cond, pickX_t, pickX_f, pickX_b, XA_skip_blk, XA_skip_lp, XA_exit_seq, XA_exit_lp, XA_exit_blk, XA_exit_nil, load1, Ev.loadCells, objCells, bodyCells, setCells, AV.flat, AV.flat1, backR, backV, backCell, mapO, AV.cells, AV.atom, AV.tree, fillV, repeatL, treeCell, freezeAll, eqCells, callV_T, callV_F, passV, passCell, srcCells, sliceBounds, hiB, loB, thenQ_nA, thenQ_xA, thenQ_rA, runK_nA, runK_xA, runK_rA, wrap_i64, wrap_u64, wrap_u32, wrap_u8, wrap_u16, callV_O, okIds, passObjs, passBody, backObjs, backBody, adopts, List.idxOf?, List.findIdx?, List.findIdx?.go, AV.atom, normA, lkE, fixObjs, fixBody, fixV, fixCell, vR, nlOr, nlObj, catV, h0, hLl, hft, hg, ht, hlt', hB']
          | true =>
            rw [g] at hg
            have hbb := (hI m L).1 (by simp [g])
            have hbc : bytesC L m = b := by unfold bytesC; rw [if_pos g]; exact hbb.2.symm
            rw [hbc] at hby
            have b2 := bytesOf_map b
            simp only [rB] at hby
            simp [beqI, bneI, mm_min2, mm_max2, mm_min3, mm_max3, startE, lkE, lkX, lkE_rest, sx, substE, opVA, objs0, List.replicate, XA_seq, XA_region, XOA_go, goE_someA, opV, ev, putA, layAll, XOA_nil, XA_skip_seq, XA_skip_nil, XOA_gd, goG_tA, goG_uA, binV, bi_add, bi_sub, bi_mul, bi_quo, bi_rem, bi_eql, bi_neq, bi_lss, bi_leq, bi_gtr, bi_geq, bi_shl, bi_shr, bi_and, bi_or, bi_xor, unV, XA_ret_nil, XA_ret_cons, endFA_r, endFA_n, endTA_r, endTA_n, endRA_r, endRA_n, fltR, resultsA, resAs, resA, XA_block, XA_cond, pickX_t, pickX_f, pickX_b, XA_skip_blk, XA_skip_lp, XA_exit_seq, XA_exit_lp, XA_exit_blk, XA_exit_nil, load1, Ev.loadCells, objCells, bodyCells, setCells, AV.flat, AV.flat1, backR, backV, backCell, mapO, AV.cells, AV.atom, AV.tree, fillV, repeatL, treeCell, freezeAll, eqCells, callV_T, callV_F, passV, passCell, srcCells, sliceBounds, hiB, loB, thenQ_nA, thenQ_xA, thenQ_rA, runK_nA, runK_xA, runK_rA, wrap_i64, wrap_u64, wrap_u32, wrap_u8, wrap_u16, callV_O, okIds, passObjs, passBody, backObjs, backBody, adopts, List.idxOf?, List.findIdx?, List.findIdx?.go, AV.atom, normA, lkE, fixObjs, fixBody, fixV, fixCell, vR, nlOr, nlObj, catV, h0, hLl, hft, hg, ht, hlt', hby, b2, hl, hB']
      · have hr' : 0 < r.length := List.length_pos_iff.2 hr
        simp [beqI, bneI, mm_min2, mm_max2, mm_min3, mm_max3, startE, lkE, lkX, lkE_rest, sx, substE, opVA, objs0, List.replicate, XA_seq, XA_region, XOA_go, goE_someA, opV, ev, putA, layAll, XOA_nil, XA_skip_seq, XA_skip_nil, XOA_gd, goG_tA, goG_uA, binV, bi_add, bi_sub, bi_mul, bi_quo, bi_rem, bi_eql, bi_neq, bi_lss, bi_leq, bi_gtr, bi_geq, bi_shl, bi_shr, bi_and, bi_or, bi_xor, unV, XA_ret_nil, XA_ret_cons, endFA_r, endFA_n, endTA_r, endTA_n, endRA_r, endRA_n, fltR, resultsA, resAs, resA, XA_block, XA_cond, pickX_t, pickX_f, pickX_b, XA_skip_blk, XA_skip_lp, XA_exit_seq, XA_exit_lp, XA_exit_blk, XA_exit_nil, load1, Ev.loadCells, objCells, bodyCells, setCells, AV.flat, AV.flat1, backR, backV, backCell, mapO, AV.cells, AV.atom, AV.tree, fillV, repeatL, treeCell, freezeAll, eqCells, callV_T, callV_F, passV, passCell, srcCells, sliceBounds, hiB, loB, thenQ_nA, thenQ_xA, thenQ_rA, runK_nA, runK_xA, runK_rA, wrap_i64, wrap_u64, wrap_u32, wrap_u8, wrap_u16, callV_O, okIds, passObjs, passBody, backObjs, backBody, adopts, List.idxOf?, List.findIdx?, List.findIdx?.go, AV.atom, normA, lkE, fixObjs, fixBody, fixV, fixCell, vR, catV, hr, hr', hlt', hB']
end Go.Proofs.Ytfodjphcngidbaa
