/- What is sliced, diced, rolled up, drilled down: the plain law. -/
import Derived.Test.YtambpbcdnhekbaaQN
set_option linter.unusedSimpArgs false
set_option linter.unusedVariables false
set_option maxHeartbeats 8000000
set_option maxRecDepth 100000
namespace Go.Proofs.Ytambpbcdnhekbaa
open Go.Ev
theorem setN_n {q : Qy} {k : Nat} (h : k < 4) (x : Int) : (q.setN k x).n = q.n.set k x := by
  have h4 : k = 0 ∨ k = 1 ∨ k = 2 ∨ k = 3 := by omega
  rcases h4 with rfl | rfl | rfl | rfl <;> rfl
theorem setN_rest (q : Qy) (k : Nat) (x : Int) : (q.setN k x).F = q.F ∧ (q.setN k x).t = q.t ∧ (q.setN k x).me = q.me ∧ (q.setN k x).fn = q.fn ∧ (q.setN k x).li = q.li := by
  unfold Qy.setN
  split <;> exact ⟨rfl, rfl, rfl, rfl, rfl⟩
theorem goodQ_of {ds : List Dm} {m : Int} {q : Qy} (h1 : goodN ds m q.n = true) (h2 : q.F.length ≤ 6) (h3 : ∀ f ∈ q.F, fixG ds f = true) (h4 : endQ m q = true) (h5 : 0 ≤ q.t) (h6 : q.t ≤ 1000) (h7 : 0 ≤ q.li) (h8 : q.li ≤ 1000) : goodQ ds m q = true := by
  simp only [goodQ, headQ, Bool.and_eq_true, decide_eq_true_eq, List.all_eq_true]
  exact ⟨⟨h1, h2, ⟨h5, h6⟩, h7, h8⟩, h3, h4⟩
theorem endQ_eq {m : Int} {p q : Qy} (h1 : p.t = q.t) (h2 : p.me = q.me) (h3 : p.fn = q.fn) : endQ m p = endQ m q := by
  unfold endQ; rw [h1, h2, h3]
theorem goodQ_withF {ds : List Dm} {m : Int} {q : Qy} {F : List Fx} (h : goodQ ds m q = true) (hl : F.length ≤ 6) (hF : ∀ f ∈ F, fixG ds f = true) : goodQ ds m (q.withF F) = true := by
  obtain ⟨h1, h2, h3, h4, h5, h6, h7, h8⟩ := goodQ_parts h
  exact goodQ_of h1 hl hF h4 h5 h6 h7 h8
theorem goodN_set {ds : List Dm} {m : Int} {v : List Int} {k : Nat} {x : Int} (h : goodN ds m v = true) (hv : okN v) (hk : k < 4) (h0 : 0 ≤ x) (h1 : x ≤ wOf ds k) : goodN ds m (v.set k x) = true := by
  have g := goodN_good h
  have hw := wOf_le g k
  have hb : byte x := ⟨h0, by omega⟩
  have hv2 := set_gI_in (k := k) hv hb
  have h2 := (goodN_iff g hv).1 h
  refine (goodN_iff g hv2).2 ?_
  obtain ⟨a, b, c, d, rfl, -, -, -, -⟩ := four hv
  have h4 : k = 0 ∨ k = 1 ∨ k = 2 ∨ k = 3 := by omega
  rcases h4 with rfl | rfl | rfl | rfl <;> simp [gI] at h2 ⊢ <;> omega
theorem goodQ_setN {ds : List Dm} {m : Int} {q : Qy} {k : Nat} {x : Int} (h : goodQ ds m q = true) (hq : okQ q) (hk : k < 4) (h0 : 0 ≤ x) (hx : x ≤ wOf ds k) : goodQ ds m (q.setN k x) = true := by
  obtain ⟨h1, h2, h3, h4, h5, h6, h7, h8⟩ := goodQ_parts h
  obtain ⟨r1, r2, r3, r4, r5⟩ := setN_rest q k x
  refine goodQ_of (by rw [setN_n hk]; exact goodN_set h1 hq.n hk h0 hx) (by rw [r1]; exact h2) (by rw [r1]; exact h3) (by rw [endQ_eq r2 r3 r4]; exact h4) ?_ ?_ ?_ ?_
  · rw [r2]; exact h5
  · rw [r2]; exact h6
  · rw [r5]; exact h7
  · rw [r5]; exact h8
theorem dice_eq (ds : List Dm) (m : Int) (q : Qy) (d l : Int) (ms : List Int) : diceQ ds m q d l ms = rdiceQ ds m q ⟨d, l, ms⟩ false := by
  unfold diceQ rdiceQ addF
  simp only [Bool.false_eq_true, if_false]
  by_cases g : goodQ ds m q = true
  · by_cases hf : fixG ds ⟨d, l, ms⟩ = true
    · have h := fixG_lv hf
      simp only at h
      rw [if_pos (by simp [hasQ, g, h]), if_pos ⟨g, hf⟩]
    · rw [if_neg (show ¬ (goodQ ds m q = true ∧ fixG ds ⟨d, l, ms⟩ = true) from fun h => hf h.2)]
      split
      · unfold toldQ
        rw [if_neg (fun h => hf ((goodQ_parts h).2.2.1 _ (by simp [Qy.withF])))]
      · rfl
  · rw [if_neg (fun h => g (hasQ_parts h).1), if_neg (fun h => g h.1)]
theorem whole_at {ds : List Dm} {m : Int} (g : goodC ds m = true) {k : Nat} (h : k < 4) : gI (wholeN ds m) k = wOf ds k := by
  unfold wholeN
  rw [if_pos g]
  have h4 : k = 0 ∨ k = 1 ∨ k = 2 ∨ k = 3 := by omega
  rcases h4 with rfl | rfl | rfl | rfl <;> rfl
theorem slice_eq (ds : List Dm) (m : Int) (q : Qy) (d l x : Int) : sliceQ ds m q d l x = rdiceQ ds m q ⟨d, l, [x]⟩ true := by
  unfold sliceQ
  rw [dice_eq]
  unfold rdiceQ addF
  simp only [Bool.false_eq_true, if_false, if_true]
  by_cases g : goodQ ds m q = true ∧ fixG ds ⟨d, l, [x]⟩ = true
  · rw [if_pos g, if_pos g]
    have gc := goodN_good (goodQ_parts g.1).1
    have hk := (fixG_lt gc g.2).1
    simp only at hk
    rw [whole_at gc hk]
    unfold toldQ
    by_cases g2 : goodQ ds m (q.withF (q.F ++ [⟨d, l, [x]⟩])) = true
    · rw [if_pos g2]
    · rw [if_neg g2]
      simp only
      rw [if_neg]
      intro h
      obtain ⟨-, h2, h3, -⟩ := goodQ_parts h
      obtain ⟨r1, -⟩ := setN_rest (q.withF (q.F ++ [⟨d, l, [x]⟩])) d.toNat (wOf ds d.toNat)
      rw [r1] at h2 h3
      exact g2 (goodQ_withF g.1 h2 h3)
  · rw [if_neg g, if_neg g]
theorem n_le {ds : List Dm} {m : Int} {q : Qy} {k : Nat} (g : goodQ ds m q = true) (hq : okQ q) (hk : k < 4) : gI q.n k ≤ wOf ds k := by
  have h1 := (goodQ_parts g).1
  have h2 := (goodN_iff (goodN_good h1) hq.n).1 h1
  have h4 : k = 0 ∨ k = 1 ∨ k = 2 ∨ k = 3 := by omega
  rcases h4 with rfl | rfl | rfl | rfl
  · exact h2.1
  · exact h2.2.1
  · exact h2.2.2.1
  · exact h2.2.2.2
theorem roll_eq (ds : List Dm) (m : Int) (q : Qy) (d : Int) (hq : okQ q) : rollQ ds m q d = turnQ ds m q d 1 := by
  unfold rollQ turnQ
  by_cases g : hasQ ds m q d = true
  · obtain ⟨h1, h2, h3, h4, -⟩ := hasQ_parts g
    have hb := hq.n.at h4
    have hle := n_le h1 hq h4
    unfold byte at hb
    by_cases c : gI q.n d.toNat = wOf ds d.toNat
    · rw [if_neg (fun h => h.2 c), if_neg (fun h => by omega)]
    · rw [if_pos ⟨g, c⟩, if_pos ⟨g, by omega, by omega⟩]
      unfold toldQ
      rw [if_pos (goodQ_setN h1 hq h4 (by omega) (by omega))]
  · rw [if_neg (fun h => g h.1), if_neg (fun h => g h.1)]
theorem drill_eq (ds : List Dm) (m : Int) (q : Qy) (d : Int) (hq : okQ q) : drillQ ds m q d = turnQ ds m q d (-1) := by
  unfold drillQ turnQ
  by_cases g : hasQ ds m q d = true
  · obtain ⟨h1, h2, h3, h4, -⟩ := hasQ_parts g
    have hb := hq.n.at h4
    have hle := n_le h1 hq h4
    unfold byte at hb
    by_cases c : gI q.n d.toNat = 0
    · rw [if_neg (fun h => h.2 c), if_neg (fun h => by omega)]
    · rw [if_pos ⟨g, c⟩, if_pos ⟨g, by omega, by omega⟩]
      unfold toldQ
      rw [if_pos (goodQ_setN h1 hq h4 (by omega) (by omega))]
      rw [show gI q.n d.toNat - 1 = gI q.n d.toNat + -1 from by omega]
  · rw [if_neg (fun h => g h.1), if_neg (fun h => g h.1)]
theorem zeroQ_ok : okQ zeroQ := ⟨⟨by decide, by decide⟩, ⟨by decide, by decide⟩, ⟨by decide, by decide⟩, ⟨by decide, by decide⟩, ⟨by decide, fun f h => by simp [zeroQ] at h⟩, ⟨by decide, by decide⟩, ⟨by decide, by decide⟩, ⟨by decide, by decide⟩, ⟨by decide, by decide⟩⟩
theorem rdice_ok {ds : List Dm} {m : Int} {q : Qy} {f : Fx} {w : Bool} (hq : okQ q) (hf : okF f) : okQ ((rdiceQ ds m q f w).getD zeroQ) := by
  unfold rdiceQ
  split
  · rename_i g
    obtain ⟨g1, g2⟩ := g
    have gp := goodQ_parts g1
    have gc := goodN_good gp.1
    have hw := wOf_le gc f.d.toNat
    have hq2 : okQ (q.withF (q.F ++ [f])) := withF_ok hq (by have := gp.2.1; rw [List.length_append]; simp; omega) (fun x hx => by
      rcases List.mem_append.1 hx with h | h
      · exact hq.F.2 x h
      · simp at h; subst h; exact hf)
    unfold toldQ
    split
    · simp only [Option.getD_some]
      unfold addF
      split
      · exact setN_ok hq2 ⟨by omega, by omega⟩
      · exact hq2
    · exact zeroQ_ok
  · exact zeroQ_ok
theorem turn_ok {ds : List Dm} {m : Int} {q : Qy} {d y : Int} (hq : okQ q) : okQ ((turnQ ds m q d y).getD zeroQ) := by
  unfold turnQ
  split
  · rename_i g
    obtain ⟨g1, g2, g3⟩ := g
    have gp := hasQ_parts g1
    have hw := wOf_le gp.2.2.2.2.2.1 d.toNat
    exact setN_ok hq ⟨g2, by omega⟩
  · exact zeroQ_ok
theorem lsame_ev (o : Option Qy) (h : okQ (o.getD zeroQ)) : cvF tab 20 [.agg (qyC (o.getD zeroQ)), .bool o.isSome, resO o] = some (.bool true) := by
  refine cvFA_R (mf := Mf.f20) rfl rfl (by kernel_rfl) ?_
  simp only [Mf.f20]
  have e := rqsame_ev (o.getD zeroQ) (o.getD zeroQ) h
  rw [decide_eq_true rfl] at e
  unfold resO
  clear h
  generalize o.isSome = b at *
  generalize o.getD zeroQ = y at *
  obtain ⟨a, b', c, ee, F, t, me, fn, li⟩ := y
  simp only [qyC] at e ⊢
  simp [beqI, bneI, mm_min2, mm_max2, mm_min3, mm_max3, startE, lkE, lkX, lkE_rest, sx, substE, opVA, objs0, List.replicate, XA_seq, XA_region, XOA_go, goE_someA, opV, ev, putA, layAll, XOA_nil, XA_skip_seq, XA_skip_nil, XOA_gd, goG_tA, goG_uA, binV, binInt, unV, XA_ret_nil, XA_ret_cons, endFA_r, endFA_n, endTA_r, endTA_n, endRA_r, endRA_n, fltR, resultsA, resAs, resA, XA_block, XA_cond, pickX_t, pickX_f, pickX_b, XA_skip_blk, XA_skip_lp, XA_exit_seq, XA_exit_lp, XA_exit_blk, XA_exit_nil, load1, Ev.loadCells, objCells, bodyCells, setCells, AV.flat, AV.flat1, backR, backV, backCell, mapO, AV.cells, AV.atom, AV.tree, fillV, repeatL, treeCell, freezeAll, eqCells, callV_T, callV_F, passN, passV, passCell, srcCells, sliceBounds, hiB, loB, thenQ_nA, thenQ_xA, thenQ_rA, runK_nA, runK_xA, runK_rA, wrap_i64, wrap_u64, wrap_u32, wrap_u8, wrap_u16, e]
end Go.Proofs.Ytambpbcdnhekbaa
