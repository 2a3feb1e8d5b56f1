/- Catalogs are read: the program's reader. -/
import Derived.Test.YtmnafjgkhhdidaaSchP
set_option linter.unusedSimpArgs false
set_option linter.unusedVariables false
set_option maxHeartbeats 4000000
set_option maxRecDepth 100000
namespace Go.Proofs.Ytmnafjgkhhdidaa
open Go.Ev
theorem rep_snoc {α : Type} (st : Bool → Bool) (f : α × RS → α × RS) : ∀ (n : Nat) (s : α × RS), rep st f (n + 1) s = if st (rep st f n s).2.2 = true then rep st f n s else f (rep st f n s)
  | 0, s => rfl
  | n + 1, s => by
    by_cases c : st s.2.2 = true
    · rw [show rep st f (n + 1 + 1) s = s from by simp [rep, c], show rep st f (n + 1) s = s from by simp [rep, c], if_pos c]
    · rw [show rep st f (n + 1 + 1) s = rep st f (n + 1) (f s) from by simp [rep, c], show rep st f (n + 1) s = rep st f n (f s) from by simp [rep, c]]
      exact rep_snoc st f n (f s)
theorem rep_inv {α : Type} {st : Bool → Bool} {f : α × RS → α × RS} (P : Nat → α × RS → Prop) (hs : ∀ i s, P i s → P (i + 1) (f s)) (hk : ∀ i s, st s.2.2 = true → P i s → P (i + 1) s) {s : α × RS} (h0 : P 0 s) : ∀ n, P n (rep st f n s)
  | 0 => h0
  | n + 1 => by
    have h := rep_inv P hs hk h0 n
    rw [rep_snoc]
    by_cases c : st (rep st f n s).2.2 = true
    · rw [if_pos c]; exact hk n _ c h
    · rw [if_neg c]; exact hs n _ h
def okS (s : RS) : Prop := okB s.1 ∧ s.1.length ≤ 1000000
theorem okS.drop {b : List Int} {bad : Bool} (h : okS (b, bad)) (n : Nat) (bad' : Bool) : okS (b.drop n, bad') := ⟨fun x hx => h.1 x (List.mem_of_mem_drop hx), by have := h.2; simp only [List.length_drop] at *; omega⟩
theorem okS.same {b : List Int} {bad : Bool} (h : okS (b, bad)) (bad' : Bool) : okS (b, bad') := ⟨h.1, h.2⟩
structure NumI (nm : Nat → RS → Int × RS) : Prop where
  s : ∀ most s, okS s → okS (nm most s).2
  v : ∀ most s, okS s → most ≤ 40 → 0 ≤ (nm most s).1 ∧ (nm most s).1 ≤ 40
structure smD (d : Dm) : Prop where
  s : d.S.length ≤ 40
  u : d.U.length ≤ 40
  sv : ∀ n ∈ d.S, 0 ≤ n ∧ n ≤ 40
  uv : ∀ l ∈ d.U, l.length ≤ 40 ∧ ∀ n ∈ l, 0 ≤ n ∧ n ≤ 40
theorem sm_ok {d : Dm} (h : smD d) : okD d.S d.U :=
  ⟨⟨by have := h.s; omega, fun x hx => by have := h.sv x hx; unfold inI; omega⟩, by have := h.u; omega, fun l hl => ⟨by have := (h.uv l hl).1; omega, fun x hx => by have := (h.uv l hl).2 x hx; unfold inI; omega⟩⟩
section
variable {nm : Nat → RS → Int × RS} (st : Bool → Bool) (hI : NumI nm)
include hI
theorem listP_inv {most : Nat} (hm : most ≤ 40) {s : RS} (hs : okS s) (n : Nat) : (listP nm st most n s).1.length ≤ n ∧ okS (listP nm st most n s).2 ∧ ∀ x ∈ (listP nm st most n s).1, 0 ≤ x ∧ x ≤ 40 := by
  refine rep_inv (s := ([], s)) (fun (n : Nat) (s : List Int × RS) => s.1.length ≤ n ∧ okS s.2 ∧ ∀ x ∈ s.1, 0 ≤ x ∧ x ≤ 40) ?_ ?_ ⟨Nat.le_refl _, hs, by simp⟩ n
  · rintro i s ⟨h1, h2, h3⟩
    refine ⟨by simp [listF]; omega, hI.s most _ h2, fun x hx => ?_⟩
    simp only [listF, List.mem_append, List.mem_singleton] at hx
    rcases hx with hx | rfl
    · exact h3 x hx
    · exact hI.v most _ h2 hm
  · rintro i s _ ⟨h1, h2, h3⟩
    exact ⟨by omega, h2, h3⟩
theorem upP_inv (S : List Int) (hS : ∀ x ∈ S, 0 ≤ x ∧ x ≤ 40) {s : RS} (hs : okS s) (n : Nat) : (upP nm st S n s).1.length ≤ n ∧ okS (upP nm st S n s).2 ∧ ∀ l ∈ (upP nm st S n s).1, l.length ≤ 40 ∧ ∀ x ∈ l, 0 ≤ x ∧ x ≤ 40 := by
  have hg : ∀ i, (gI S i).toNat ≤ 40 := by
    intro i
    by_cases h : i < S.length
    · rw [gI_get _ _ h]
      have := hS _ (List.getElem_mem h)
      omega
    · rw [gI, List.getD_eq_getElem?_getD, List.getElem?_eq_none (by omega)]
      simp
  refine rep_inv (s := ([], s)) (fun (n : Nat) (s : List (List Int) × RS) => s.1.length ≤ n ∧ okS s.2 ∧ ∀ l ∈ s.1, l.length ≤ 40 ∧ ∀ x ∈ l, 0 ≤ x ∧ x ≤ 40) ?_ ?_ ⟨Nat.le_refl _, hs, by simp⟩ n
  · rintro i s ⟨h1, h2, h3⟩
    have h4 := listP_inv st hI (most := 40) (by omega) h2 (gI S s.1.length).toNat
    refine ⟨by simp [upF]; omega, h4.2.1, fun x hx => ?_⟩
    simp only [upF, List.mem_append, List.mem_singleton] at hx
    rcases hx with hx | rfl
    · exact h3 x hx
    · have := hg s.1.length
      exact ⟨by omega, h4.2.2⟩
  · rintro i s _ ⟨h1, h2, h3⟩
    exact ⟨by omega, h2, h3⟩
theorem dimP_inv {s : RS} (hs : okS s) : smD (dimP nm st s).1 ∧ okS (dimP nm st s).2 := by
  have h1 := hI.v 4 s hs (by omega)
  have h2 := listP_inv st hI (most := 40) (by omega) (hI.s 4 s hs) (nm 4 s).1.toNat
  have h3 := upP_inv st hI _ h2.2.2 h2.2.1 ((nm 4 s).1.toNat - 1)
  unfold dimP
  exact ⟨⟨by simp only; omega, by simp only; omega, h2.2.2, h3.2.2⟩, h3.2.1⟩
theorem dimsP_inv {s : RS} (hs : okS s) (n : Nat) : (dimsP nm st n s).1.length ≤ n ∧ okS (dimsP nm st n s).2 ∧ ∀ d ∈ (dimsP nm st n s).1, smD d := by
  refine rep_inv (s := ([], s)) (fun (n : Nat) (s : List Dm × RS) => s.1.length ≤ n ∧ okS s.2 ∧ ∀ d ∈ s.1, smD d) ?_ ?_ ⟨Nat.le_refl _, hs, by simp⟩ n
  · rintro i s ⟨h1, h2, h3⟩
    have h4 := dimP_inv st hI h2
    refine ⟨by simp [dimF]; omega, h4.2, fun x hx => ?_⟩
    simp only [dimF, List.mem_append, List.mem_singleton] at hx
    rcases hx with hx | rfl
    · exact h3 x hx
    · exact h4.1
  · rintro i s _ ⟨h1, h2, h3⟩
    exact ⟨by omega, h2, h3⟩
theorem dimsP_ok {s : RS} (hs : okS s) (n : Nat) (hn : n ≤ 40) : okC (dimsP nm st n s).1 := by
  have h := dimsP_inv st hI hs n
  exact ⟨by omega, fun d hd => sm_ok (h.2.2 d hd)⟩
end
theorem rep_len {α : Type} {f : List α × RS → List α × RS} (hf : ∀ s, (f s).1.length = s.1.length + 1) (s : List α × RS) (h0 : s.1.length = 0) (n : Nat) : (rep (fun _ => false) f n s).1.length = n :=
  rep_inv (fun (n : Nat) (s : List α × RS) => s.1.length = n) (fun i s h => by rw [hf, h]) (fun i s c _ => by simp at c) h0 n
/-! ### The program's -/
def numS (most : Nat) (s : RS) : Int × RS := match gv s.1 0 0 with
  | some (u, n) => if s.2 = true ∨ ((min most 40 : Nat) : Int) < u then (0, s.1, true) else (u, s.1.drop n, false)
  | none => (0, s.1, true)
theorem numS_P : NumP numS fun n => min n 40 := by
  refine ⟨?_, ?_, fun _ => Nat.min_le_right _ _⟩
  · intro most b bad h
    unfold numS at h ⊢
    cases e : gv b 0 0 with
    | none => simp [e] at h
    | some p =>
      obtain ⟨u, n⟩ := p
      simp only [e] at h ⊢
      by_cases c : bad = true ∨ ((min most 40 : Nat) : Int) < u
      · rw [if_pos c] at h; simp at h
      · rw [if_neg c]
        exact ⟨by simpa using fun h => c (.inl h), u, n, rfl, by omega, rfl⟩
  · intro most b u n hm h hu
    unfold numS
    simp only [h]
    rw [if_neg]
    rintro (c | c)
    · cases c
    · omega
theorem numS_I : NumI numS := by
  constructor
  · intro most s hs
    unfold numS
    split
    · split
      · exact hs.same _
      · exact hs.drop _ _
    · exact hs.same _
  · intro most s hs hm
    unfold numS
    split
    · rename_i u n e
      have := gv_nn hs.1 e
      split
      · simp
      · rename_i c
        simp only [not_or] at c
        simp only; omega
    · simp
def stS : Bool → Bool := fun _ => false
theorem num_ev (b : List Int) (bad : Bool) (most : Nat) (hs : okS (b, bad)) (hm : most ≤ 40) :
    cfT tab 48 [.ptr 0 0 0, .int .i64 most] [⟨0, .var [rB b, .bool bad]⟩] = some (.int .i64 (numS most (b, bad)).1, [⟨0, .var [rB (numS most (b, bad)).2.1, .bool (numS most (b, bad)).2.2]⟩]) := by
  refine cfTA_R (mf := Mf.f48) rfl rfl (by kernel_rfl) ?_
  simp only [Mf.f48]
  have e := get_ev b hs.1 (by have := hs.2; simp only at this; omega)
  have hmw : IntKind.u64.wrap (most : Int) = (most : Int) := wrap_u64 (by omega) (by omega)
  have hmin : ((min most 40 : Nat) : Int) = most := by omega
  unfold numS
  cases h : gv b 0 0 with
  | none =>
    rw [h] at e
    simp only [getV, rB] at e
    cases bad <;> simp [beqI, bneI, mm_min2, mm_max2, mm_min3, mm_max3, startE, lkE, lkX, lkE_rest, sx, substE, opVA, objs0, List.replicate, XA_seq, XA_region, XOA_go, goE_someA, opV, ev, putA, layAll, XOA_nil, XA_skip_seq, XA_skip_nil, XOA_gd, goG_tA, goG_uA, binV, bi_add, bi_sub, bi_mul, bi_quo, bi_rem, bi_eql, bi_neq, bi_lss, bi_leq, bi_gtr, bi_geq, bi_shl, bi_shr, bi_and, bi_or, bi_xor, unV, XA_ret_nil, XA_ret_cons, endFA_r, endFA_n, endTA_r, endTA_n, endRA_r, endRA_n, endEA_r, endEA_n, List.take, fltR, resultsA, resAs, resA, XA_block, XA_cond, pickX_t, pickX_f, pickX_b, XA_skip_blk, XA_skip_lp, XA_exit_seq, XA_exit_lp, XA_exit_blk, XA_exit_nil, load1, Ev.loadCells, objCells, bodyCells, setCells, AV.flat, AV.flat1, backR, backV, backCell, mapO, AV.cells, AV.atom, AV.tree, fillV, repeatL, treeCell, freezeAll, eqCells, callV_T, callV_F, passN, passV, passCell, srcCells, sliceBounds, hiB, loB, thenQ_nA, thenQ_xA, thenQ_rA, runK_nA, runK_xA, runK_rA, wrap_i64, wrap_u64, wrap_u32, wrap_u8, wrap_u16, rB, e, hmw]
  | some p =>
    obtain ⟨u, n⟩ := p
    rw [h] at e
    simp only [getV] at e
    have hg := gv_nn hs.1 h
    simp only at hg
    have hn' : (n : Int) ≤ (b.length : Int) := by omega
    have hn0 : (0 : Int) ≤ (n : Int) := by omega
    have hr := rB_drop b n hg.2
    simp only [hmin, rB] at e hr ⊢
    cases bad with
    | true => simp [beqI, bneI, mm_min2, mm_max2, mm_min3, mm_max3, startE, lkE, lkX, lkE_rest, sx, substE, opVA, objs0, List.replicate, XA_seq, XA_region, XOA_go, goE_someA, opV, ev, putA, layAll, XOA_nil, XA_skip_seq, XA_skip_nil, XOA_gd, goG_tA, goG_uA, binV, bi_add, bi_sub, bi_mul, bi_quo, bi_rem, bi_eql, bi_neq, bi_lss, bi_leq, bi_gtr, bi_geq, bi_shl, bi_shr, bi_and, bi_or, bi_xor, unV, XA_ret_nil, XA_ret_cons, endFA_r, endFA_n, endTA_r, endTA_n, endRA_r, endRA_n, endEA_r, endEA_n, List.take, fltR, resultsA, resAs, resA, XA_block, XA_cond, pickX_t, pickX_f, pickX_b, XA_skip_blk, XA_skip_lp, XA_exit_seq, XA_exit_lp, XA_exit_blk, XA_exit_nil, load1, Ev.loadCells, objCells, bodyCells, setCells, AV.flat, AV.flat1, backR, backV, backCell, mapO, AV.cells, AV.atom, AV.tree, fillV, repeatL, treeCell, freezeAll, eqCells, callV_T, callV_F, passN, passV, passCell, srcCells, sliceBounds, hiB, loB, thenQ_nA, thenQ_xA, thenQ_rA, runK_nA, runK_xA, runK_rA, wrap_i64, wrap_u64, wrap_u32, wrap_u8, wrap_u16, e, hmw]
    | false =>
      by_cases c : (most : Int) < u
      · simp [beqI, bneI, mm_min2, mm_max2, mm_min3, mm_max3, startE, lkE, lkX, lkE_rest, sx, substE, opVA, objs0, List.replicate, XA_seq, XA_region, XOA_go, goE_someA, opV, ev, putA, layAll, XOA_nil, XA_skip_seq, XA_skip_nil, XOA_gd, goG_tA, goG_uA, binV, bi_add, bi_sub, bi_mul, bi_quo, bi_rem, bi_eql, bi_neq, bi_lss, bi_leq, bi_gtr, bi_geq, bi_shl, bi_shr, bi_and, bi_or, bi_xor, unV, XA_ret_nil, XA_ret_cons, endFA_r, endFA_n, endTA_r, endTA_n, endRA_r, endRA_n, endEA_r, endEA_n, List.take, fltR, resultsA, resAs, resA, XA_block, XA_cond, pickX_t, pickX_f, pickX_b, XA_skip_blk, XA_skip_lp, XA_exit_seq, XA_exit_lp, XA_exit_blk, XA_exit_nil, load1, Ev.loadCells, objCells, bodyCells, setCells, AV.flat, AV.flat1, backR, backV, backCell, mapO, AV.cells, AV.atom, AV.tree, fillV, repeatL, treeCell, freezeAll, eqCells, callV_T, callV_F, passN, passV, passCell, srcCells, sliceBounds, hiB, loB, thenQ_nA, thenQ_xA, thenQ_rA, runK_nA, runK_xA, runK_rA, wrap_i64, wrap_u64, wrap_u32, wrap_u8, wrap_u16, e, hmw, c]
      · have hw : IntKind.i64.wrap u = u := wrap_i64 (by omega) (by omega)
        simp [beqI, bneI, mm_min2, mm_max2, mm_min3, mm_max3, startE, lkE, lkX, lkE_rest, sx, substE, opVA, objs0, List.replicate, XA_seq, XA_region, XOA_go, goE_someA, opV, ev, putA, layAll, XOA_nil, XA_skip_seq, XA_skip_nil, XOA_gd, goG_tA, goG_uA, binV, bi_add, bi_sub, bi_mul, bi_quo, bi_rem, bi_eql, bi_neq, bi_lss, bi_leq, bi_gtr, bi_geq, bi_shl, bi_shr, bi_and, bi_or, bi_xor, unV, XA_ret_nil, XA_ret_cons, endFA_r, endFA_n, endTA_r, endTA_n, endRA_r, endRA_n, endEA_r, endEA_n, List.take, fltR, resultsA, resAs, resA, XA_block, XA_cond, pickX_t, pickX_f, pickX_b, XA_skip_blk, XA_skip_lp, XA_exit_seq, XA_exit_lp, XA_exit_blk, XA_exit_nil, load1, Ev.loadCells, objCells, bodyCells, setCells, AV.flat, AV.flat1, backR, backV, backCell, mapO, AV.cells, AV.atom, AV.tree, fillV, repeatL, treeCell, freezeAll, eqCells, callV_T, callV_F, passN, passV, passCell, srcCells, sliceBounds, hiB, loB, thenQ_nA, thenQ_xA, thenQ_rA, runK_nA, runK_xA, runK_rA, wrap_i64, wrap_u64, wrap_u32, wrap_u8, wrap_u16, e, hmw, c, hw, hn', hn0, hr]
end Go.Proofs.Ytmnafjgkhhdidaa
