/- Nodes that are kept: may they be. -/
import Derived.Test.YtaflkcaebecpfaaLatRef
import Derived.Test.YtaflkcaebecpfaaLight
import Derived.Test.YtaflkcaebecpfaaPlaces
set_option linter.unusedSimpArgs false
set_option linter.unusedVariables false
set_option maxHeartbeats 4000000
set_option maxRecDepth 100000
namespace Go.Proofs.Ytaflkcaebecpfaa
open Go.Ev
def okNs (l : List (List Int)) : Prop := ∀ v ∈ l, okN v
theorem okNs.len {l : List (List Int)} (h : okNs l) : ∀ v ∈ l, v.length = 4 := fun v hv => (h v hv).1
theorem okNs.take {l : List (List Int)} (h : okNs l) (i : Nat) : okNs (l.take i) := fun v hv => h v (List.mem_of_mem_take hv)
theorem okNs.at {l : List (List Int)} (h : okNs l) {i : Nat} (hi : i < l.length) : okN (gR l i) := h _ (gR_mem hi)
/-- The cells of a node in a row. -/
theorem dropV {l : List (List Int)} (h : okNs l) {i : Nat} (hi : i < l.length) : List.drop (i * 4) (flatN l) = (gR l i).map (.int .u8) ++ flatN (l.drop (i + 1)) := by
  rw [dropN h.len hi]
  have := list4 (h.at hi).1
  rw [this]
  rfl
theorem eqN4 (a b c d p q r s : Int) : (decide (a = p) && (decide (b = q) && (decide (c = r) && decide (d = s)))) = decide ([a, b, c, d] = [p, q, r, s]) := by
  simp [Bool.decide_and]
def fstN (v : List Int) : List (List Int) → Nat
  | [] => 0
  | w :: r => if v = w then 0 else fstN v r + 1
theorem fstN_mem (v : List Int) : ∀ (l : List (List Int)), fstN v l < l.length ↔ v ∈ l
  | [] => by simp
  | w :: r => by
    have := fstN_mem v r
    simp only [fstN, List.length_cons, List.mem_cons]
    by_cases h : v = w
    · simp [h]
    · rw [if_neg h]
      simp only [h, false_or]
      rw [← this]
      omega
theorem fstN_le (v : List Int) : ∀ (l : List (List Int)), fstN v l ≤ l.length
  | [] => by simp [fstN]
  | w :: r => by
    have := fstN_le v r
    simp only [fstN, List.length_cons]
    split <;> omega
def idxN (l : List (List Int)) (v : List Int) : Int := if fstN v l < l.length then (fstN v l : Int) else -1
theorem index_ev (l : List (List Int)) (v : List Int) (hl : okNs l) (hv : okN v) (hn : l.length ≤ 9223372036854775807) : cvF tab 46 [rN l, .agg (v.map (.int .u8))] = some (.int .i64 (idxN l v)) := by
  refine cvFA_R (mf := Mf.f46) rfl rfl (by kernel_rfl) ?_
  simp only [Mf.f46]
  obtain ⟨a, b, c, d, rfl, _, _, _, _⟩ := four hv
  simp [beqI, bneI, mm_min2, mm_max2, mm_min3, mm_max3, startE, lkE, lkX, lkE_rest, sx, substE, opVA, objs0, List.replicate, XA_seq, XA_region, XOA_go, goE_someA, opV, ev, putA, layAll, XOA_nil, XA_skip_seq, XA_skip_nil, XOA_gd, goG_tA, goG_uA, binV, binInt, unV, XA_ret_nil, XA_ret_cons, endFA_r, endFA_n, endTA_r, endTA_n, endRA_r, endRA_n, fltR, resultsA, resAs, resA, XA_block, XA_cond, pickX_t, pickX_f, pickX_b, XA_skip_blk, XA_skip_lp, XA_exit_seq, XA_exit_lp, XA_exit_blk, XA_exit_nil, load1, Ev.loadCells, objCells, bodyCells, setCells, AV.flat, AV.flat1, backR, backV, backCell, mapO, AV.cells, AV.atom, AV.tree, fillV, repeatL, treeCell, freezeAll, eqCells, callV_T, callV_F, passN, passV, passCell, srcCells, sliceBounds, hiB, loB, thenQ_nA, thenQ_xA, thenQ_rA, runK_nA, runK_xA, runK_rA, wrap_i64, wrap_u64, wrap_u32, wrap_u8, wrap_u16, rN]
  refine XA_for (fun i => ⟨[(0, rN l), (3, .ptr 0 0 0), (7, .int .i64 l.length), (8, .int .i64 i)], [⟨0, .var [.int .u8 a, .int .u8 b, .int .u8 c, .int .u8 d]⟩]⟩)
    (fun i => fstN [a, b, c, d] l = i + fstN [a, b, c, d] (l.drop i)) l.length 0 (Nat.zero_le _) (by simp [AV.atom, normA, lkE, fixObjs, fixBody, fixV, fixCell, rN]) (by simp) ?_ ?_
  · intro i _ hi hJ
    have hi' : (i : Int) < l.length := by omega
    have hd := dropV hl hi
    obtain ⟨p, q, r, s, hv, _, _, _, _⟩ := four (hl.at hi)
    have hg := gR_get l i hi
    rw [hv] at hg
    rw [hv] at hd
    simp only [List.map_cons, List.map_nil, List.cons_append, List.nil_append] at hd
    rw [List.drop_eq_getElem_cons hi, ← hg] at hJ
    simp only [fstN] at hJ
    have he := eqN4 a b c d p q r s
    have hw := wrap_succ i l.length hi hn
    by_cases hc : [a, b, c, d] = [p, q, r, s]
    · rw [if_pos hc] at hJ
      rw [decide_eq_true hc] at he
      have hx : idxN l [a, b, c, d] = i := by unfold idxN; rw [hJ, if_pos (by omega)]; simp
      simp [beqI, bneI, mm_min2, mm_max2, mm_min3, mm_max3, startE, lkE, lkX, lkE_rest, sx, substE, opVA, objs0, List.replicate, XA_seq, XA_region, XOA_go, goE_someA, opV, ev, putA, layAll, XOA_nil, XA_skip_seq, XA_skip_nil, XOA_gd, goG_tA, goG_uA, binV, binInt, unV, XA_ret_nil, XA_ret_cons, endFA_r, endFA_n, endTA_r, endTA_n, endRA_r, endRA_n, fltR, resultsA, resAs, resA, XA_block, XA_cond, pickX_t, pickX_f, pickX_b, XA_skip_blk, XA_skip_lp, XA_exit_seq, XA_exit_lp, XA_exit_blk, XA_exit_nil, load1, Ev.loadCells, objCells, bodyCells, setCells, AV.flat, AV.flat1, backR, backV, backCell, mapO, AV.cells, AV.atom, AV.tree, fillV, repeatL, treeCell, freezeAll, eqCells, callV_T, callV_F, passN, passV, passCell, srcCells, sliceBounds, hiB, loB, thenQ_nA, thenQ_xA, thenQ_rA, runK_nA, runK_xA, runK_rA, wrap_i64, wrap_u64, wrap_u32, wrap_u8, wrap_u16, AV.atom, normA, lkE, fixObjs, fixBody, fixV, fixCell, rN, hi', hd, he, hx]
    · rw [if_neg hc] at hJ
      rw [decide_eq_false hc] at he
      have hJ2 : fstN [a, b, c, d] l = i + 1 + fstN [a, b, c, d] (l.drop (i + 1)) := by omega
      simp only [hJ2]
      simp [beqI, bneI, mm_min2, mm_max2, mm_min3, mm_max3, startE, lkE, lkX, lkE_rest, sx, substE, opVA, objs0, List.replicate, XA_seq, XA_region, XOA_go, goE_someA, opV, ev, putA, layAll, XOA_nil, XA_skip_seq, XA_skip_nil, XOA_gd, goG_tA, goG_uA, binV, binInt, unV, XA_ret_nil, XA_ret_cons, endFA_r, endFA_n, endTA_r, endTA_n, endRA_r, endRA_n, fltR, resultsA, resAs, resA, XA_block, XA_cond, pickX_t, pickX_f, pickX_b, XA_skip_blk, XA_skip_lp, XA_exit_seq, XA_exit_lp, XA_exit_blk, XA_exit_nil, load1, Ev.loadCells, objCells, bodyCells, setCells, AV.flat, AV.flat1, backR, backV, backCell, mapO, AV.cells, AV.atom, AV.tree, fillV, repeatL, treeCell, freezeAll, eqCells, callV_T, callV_F, passN, passV, passCell, srcCells, sliceBounds, hiB, loB, thenQ_nA, thenQ_xA, thenQ_rA, runK_nA, runK_xA, runK_rA, wrap_i64, wrap_u64, wrap_u32, wrap_u8, wrap_u16, AV.atom, normA, lkE, fixObjs, fixBody, fixV, fixCell, rN, hi', hd, he, hw]
  · intro hJ
    rw [List.drop_length] at hJ
    simp only [fstN] at hJ
    have hx : idxN l [a, b, c, d] = -1 := by unfold idxN; rw [if_neg (by omega)]
    simp [beqI, bneI, mm_min2, mm_max2, mm_min3, mm_max3, startE, lkE, lkX, lkE_rest, sx, substE, opVA, objs0, List.replicate, XA_seq, XA_region, XOA_go, goE_someA, opV, ev, putA, layAll, XOA_nil, XA_skip_seq, XA_skip_nil, XOA_gd, goG_tA, goG_uA, binV, binInt, unV, XA_ret_nil, XA_ret_cons, endFA_r, endFA_n, endTA_r, endTA_n, endRA_r, endRA_n, fltR, resultsA, resAs, resA, XA_block, XA_cond, pickX_t, pickX_f, pickX_b, XA_skip_blk, XA_skip_lp, XA_exit_seq, XA_exit_lp, XA_exit_blk, XA_exit_nil, load1, Ev.loadCells, objCells, bodyCells, setCells, AV.flat, AV.flat1, backR, backV, backCell, mapO, AV.cells, AV.atom, AV.tree, fillV, repeatL, treeCell, freezeAll, eqCells, callV_T, callV_F, passN, passV, passCell, srcCells, sliceBounds, hiB, loB, thenQ_nA, thenQ_xA, thenQ_rA, runK_nA, runK_xA, runK_rA, wrap_i64, wrap_u64, wrap_u32, wrap_u8, wrap_u16, AV.atom, normA, lkE, fixObjs, fixBody, fixV, fixCell, hx]
theorem contains_ev (l : List (List Int)) (v : List Int) (hl : okNs l) (hv : okN v) (hn : l.length ≤ 9223372036854775807) : cvF tab 35 [rN l, .agg (v.map (.int .u8))] = some (.bool (decide (v ∈ l))) := by
  refine cvFA_R (mf := Mf.f35) rfl rfl (by kernel_rfl) ?_
  simp only [Mf.f35]
  have e := index_ev l v hl hv hn
  have h : decide (0 ≤ idxN l v) = decide (v ∈ l) := by
    refine decide_eq_decide.2 ?_
    rw [← fstN_mem]
    unfold idxN
    split
    · rename_i c; simp [c]
    · rename_i c; simp [c]
  obtain ⟨a, b, c, d, rfl, _, _, _, _⟩ := four hv
  simp only [rN, List.map_cons, List.map_nil] at e
  generalize decide ([a, b, c, d] ∈ l) = F at *
  simp [beqI, bneI, mm_min2, mm_max2, mm_min3, mm_max3, startE, lkE, lkX, lkE_rest, sx, substE, opVA, objs0, List.replicate, XA_seq, XA_region, XOA_go, goE_someA, opV, ev, putA, layAll, XOA_nil, XA_skip_seq, XA_skip_nil, XOA_gd, goG_tA, goG_uA, binV, binInt, unV, XA_ret_nil, XA_ret_cons, endFA_r, endFA_n, endTA_r, endTA_n, endRA_r, endRA_n, fltR, resultsA, resAs, resA, XA_block, XA_cond, pickX_t, pickX_f, pickX_b, XA_skip_blk, XA_skip_lp, XA_exit_seq, XA_exit_lp, XA_exit_blk, XA_exit_nil, load1, Ev.loadCells, objCells, bodyCells, setCells, AV.flat, AV.flat1, backR, backV, backCell, mapO, AV.cells, AV.atom, AV.tree, fillV, repeatL, treeCell, freezeAll, eqCells, callV_T, callV_F, passN, passV, passCell, srcCells, sliceBounds, hiB, loB, thenQ_nA, thenQ_xA, thenQ_rA, runK_nA, runK_xA, runK_rA, wrap_i64, wrap_u64, wrap_u32, wrap_u8, wrap_u16, rN, e, h]
/-! ### May they be -/
def goodR (ds : List Dm) (m : Int) (l : List (List Int)) : Bool :=
  goodC ds m && (decide (1 ≤ l.length) && (decide (l.length ≤ 12) && (l.all (goodN ds m) && (decide l.Nodup && decide (zero4 ∈ l)))))
theorem nodup_snoc {l : List (List Int)} {i : Nat} (hi : i < l.length) : (l.take (i + 1)).Nodup ↔ (l.take i).Nodup ∧ ¬ gR l i ∈ l.take i := by
  rw [List.take_succ_eq_append_getElem hi, ← gR_get l i hi, List.nodup_append]
  simp only [List.nodup_cons, List.not_mem_nil, not_false_eq_true, List.nodup_nil, and_self, true_and, List.mem_singleton, forall_eq, ne_eq]
  exact ⟨fun h => ⟨h.1, fun c => h.2 _ c rfl⟩, fun h => ⟨h.1, fun a ha e => h.2 (e ▸ ha)⟩⟩
theorem all_snoc {l : List (List Int)} {i : Nat} (p : List Int → Bool) (hi : i < l.length) : (l.take (i + 1)).all p = ((l.take i).all p && p (gR l i)) := by
  rw [List.take_succ_eq_append_getElem hi, ← gR_get l i hi, List.all_append]; simp
theorem nodup_take {l : List (List Int)} (h : l.Nodup) (i : Nat) : (l.take i).Nodup := List.Nodup.sublist (List.take_sublist i l) h
theorem all_take {l : List (List Int)} {p : List Int → Bool} (h : l.all p = true) (i : Nat) : (l.take i).all p = true := List.all_eq_true.2 fun x hx => List.all_eq_true.1 h x (List.mem_of_mem_take hx)
theorem flatN_take (l : List (List Int)) (h : okNs l) (i : Nat) : (flatN l).take (i * 4) = flatN (l.take i) := by
  by_cases hi : i ≤ l.length
  · conv => lhs; rw [← List.take_append_drop i l]
    rw [flatN_append, List.take_append_of_le_length (by rw [flatN_len (h.take i).len, List.length_take]; omega), List.take_of_length_le (by rw [flatN_len (h.take i).len, List.length_take]; omega)]
  · rw [List.take_of_length_le (by rw [flatN_len h.len]; omega), List.take_of_length_le (by omega)]
theorem rogood_ev (ds : List Dm) (m : Int) (l : List (List Int)) (hC : okC ds) (hl : okNs l) : cvF tab 21 [.agg [.ro ds.length (flatD ds), .int .i64 m], rN l] = some (.bool (goodR ds m l)) := by
  refine cvFA_R (mf := Mf.f21) rfl rfl (by kernel_rfl) ?_
  simp only [Mf.f21]
  have e1 := sgood_ev ds m hC
  cases g : goodC ds m with
  | false =>
    rw [g] at e1
    simp [beqI, bneI, mm_min2, mm_max2, mm_min3, mm_max3, startE, lkE, lkX, lkE_rest, sx, substE, opVA, objs0, List.replicate, XA_seq, XA_region, XOA_go, goE_someA, opV, ev, putA, layAll, XOA_nil, XA_skip_seq, XA_skip_nil, XOA_gd, goG_tA, goG_uA, binV, binInt, unV, XA_ret_nil, XA_ret_cons, endFA_r, endFA_n, endTA_r, endTA_n, endRA_r, endRA_n, fltR, resultsA, resAs, resA, XA_block, XA_cond, pickX_t, pickX_f, pickX_b, XA_skip_blk, XA_skip_lp, XA_exit_seq, XA_exit_lp, XA_exit_blk, XA_exit_nil, load1, Ev.loadCells, objCells, bodyCells, setCells, AV.flat, AV.flat1, backR, backV, backCell, mapO, AV.cells, AV.atom, AV.tree, fillV, repeatL, treeCell, freezeAll, eqCells, callV_T, callV_F, passN, passV, passCell, srcCells, sliceBounds, hiB, loB, thenQ_nA, thenQ_xA, thenQ_rA, runK_nA, runK_xA, runK_rA, wrap_i64, wrap_u64, wrap_u32, wrap_u8, wrap_u16, e1, goodR, g]
  | true =>
    rw [g] at e1
    by_cases c1 : l.length < 1
    · have c1' : (l.length : Int) < 1 := by omega
      have hx : goodR ds m l = false := by
        have : ¬ 1 ≤ l.length := by omega
        simp [goodR, this]
      simp [beqI, bneI, mm_min2, mm_max2, mm_min3, mm_max3, startE, lkE, lkX, lkE_rest, sx, substE, opVA, objs0, List.replicate, XA_seq, XA_region, XOA_go, goE_someA, opV, ev, putA, layAll, XOA_nil, XA_skip_seq, XA_skip_nil, XOA_gd, goG_tA, goG_uA, binV, binInt, unV, XA_ret_nil, XA_ret_cons, endFA_r, endFA_n, endTA_r, endTA_n, endRA_r, endRA_n, fltR, resultsA, resAs, resA, XA_block, XA_cond, pickX_t, pickX_f, pickX_b, XA_skip_blk, XA_skip_lp, XA_exit_seq, XA_exit_lp, XA_exit_blk, XA_exit_nil, load1, Ev.loadCells, objCells, bodyCells, setCells, AV.flat, AV.flat1, backR, backV, backCell, mapO, AV.cells, AV.atom, AV.tree, fillV, repeatL, treeCell, freezeAll, eqCells, callV_T, callV_F, passN, passV, passCell, srcCells, sliceBounds, hiB, loB, thenQ_nA, thenQ_xA, thenQ_rA, runK_nA, runK_xA, runK_rA, wrap_i64, wrap_u64, wrap_u32, wrap_u8, wrap_u16, e1, rN, c1', hx]
    · have c1' : ¬ (l.length : Int) < 1 := by omega
      by_cases c2 : 12 < l.length
      · have c2' : (12 : Int) < (l.length : Int) := by omega
        have hx : goodR ds m l = false := by
          have : ¬ l.length ≤ 12 := by omega
          simp [goodR, this]
        simp [beqI, bneI, mm_min2, mm_max2, mm_min3, mm_max3, startE, lkE, lkX, lkE_rest, sx, substE, opVA, objs0, List.replicate, XA_seq, XA_region, XOA_go, goE_someA, opV, ev, putA, layAll, XOA_nil, XA_skip_seq, XA_skip_nil, XOA_gd, goG_tA, goG_uA, binV, binInt, unV, XA_ret_nil, XA_ret_cons, endFA_r, endFA_n, endTA_r, endTA_n, endRA_r, endRA_n, fltR, resultsA, resAs, resA, XA_block, XA_cond, pickX_t, pickX_f, pickX_b, XA_skip_blk, XA_skip_lp, XA_exit_seq, XA_exit_lp, XA_exit_blk, XA_exit_nil, load1, Ev.loadCells, objCells, bodyCells, setCells, AV.flat, AV.flat1, backR, backV, backCell, mapO, AV.cells, AV.atom, AV.tree, fillV, repeatL, treeCell, freezeAll, eqCells, callV_T, callV_F, passN, passV, passCell, srcCells, sliceBounds, hiB, loB, thenQ_nA, thenQ_xA, thenQ_rA, runK_nA, runK_xA, runK_rA, wrap_i64, wrap_u64, wrap_u32, wrap_u8, wrap_u16, e1, rN, c1', c2', hx]
      · have c2' : ¬ (12 : Int) < (l.length : Int) := by omega
        simp [beqI, bneI, mm_min2, mm_max2, mm_min3, mm_max3, startE, lkE, lkX, lkE_rest, sx, substE, opVA, objs0, List.replicate, XA_seq, XA_region, XOA_go, goE_someA, opV, ev, putA, layAll, XOA_nil, XA_skip_seq, XA_skip_nil, XOA_gd, goG_tA, goG_uA, binV, binInt, unV, XA_ret_nil, XA_ret_cons, endFA_r, endFA_n, endTA_r, endTA_n, endRA_r, endRA_n, fltR, resultsA, resAs, resA, XA_block, XA_cond, pickX_t, pickX_f, pickX_b, XA_skip_blk, XA_skip_lp, XA_exit_seq, XA_exit_lp, XA_exit_blk, XA_exit_nil, load1, Ev.loadCells, objCells, bodyCells, setCells, AV.flat, AV.flat1, backR, backV, backCell, mapO, AV.cells, AV.atom, AV.tree, fillV, repeatL, treeCell, freezeAll, eqCells, callV_T, callV_F, passN, passV, passCell, srcCells, sliceBounds, hiB, loB, thenQ_nA, thenQ_xA, thenQ_rA, runK_nA, runK_xA, runK_rA, wrap_i64, wrap_u64, wrap_u32, wrap_u8, wrap_u16, e1, rN, c1', c2']
        refine XA_for (fun i => ⟨[(1, rN l), (2, .ptr 0 0 0), (20, rN l), (21, .int .i64 l.length), (22, .int .i64 i)], [⟨0, .var [.ro ds.length (flatD ds), .int .i64 m]⟩, ⟨0, .none⟩]⟩)
          (fun i => (l.take i).all (goodN ds m) = true ∧ (l.take i).Nodup) l.length 0 (Nat.zero_le _) (by simp [AV.atom, normA, lkE, fixObjs, fixBody, fixV, fixCell, rN]) (by simp) ?_ ?_
        · intro i _ hi hJ
          have hi' : (i : Int) < l.length := by omega
          have hi2 : (i : Int) ≤ l.length := by omega
          have hi0 : (0 : Int) ≤ i := by omega
          have hd := dropV hl hi
          have e2 := lgood_ev ds m (gR l i) hC (hl.at hi)
          have e3 := contains_ev (l.take i) (gR l i) (hl.take i) (hl.at hi) (by rw [List.length_take]; omega)
          have hn := nodup_snoc hi
          have ha := all_snoc (goodN ds m) hi
          have hw := wrap_succ i l.length hi (by omega)
          have hft := flatN_take l hl i
          have hlt : (l.take i).length = i := by rw [List.length_take]; omega
          simp only [rN, hlt] at e3
          cases g2 : goodN ds m (gR l i) with
          | false =>
            have hx : goodR ds m l = false := by
              have : l.all (goodN ds m) = false := List.all_eq_false.2 ⟨gR l i, gR_mem hi, by simp [g2]⟩
              simp [goodR, this]
            rw [g2] at e2
            obtain ⟨p, q, r, s, hv, _, _, _, _⟩ := four (hl.at hi)
            rw [hv] at hd e2
            simp only [List.map_cons, List.map_nil, List.cons_append, List.nil_append] at hd e2
            simp [beqI, bneI, mm_min2, mm_max2, mm_min3, mm_max3, startE, lkE, lkX, lkE_rest, sx, substE, opVA, objs0, List.replicate, XA_seq, XA_region, XOA_go, goE_someA, opV, ev, putA, layAll, XOA_nil, XA_skip_seq, XA_skip_nil, XOA_gd, goG_tA, goG_uA, binV, binInt, unV, XA_ret_nil, XA_ret_cons, endFA_r, endFA_n, endTA_r, endTA_n, endRA_r, endRA_n, fltR, resultsA, resAs, resA, XA_block, XA_cond, pickX_t, pickX_f, pickX_b, XA_skip_blk, XA_skip_lp, XA_exit_seq, XA_exit_lp, XA_exit_blk, XA_exit_nil, load1, Ev.loadCells, objCells, bodyCells, setCells, AV.flat, AV.flat1, backR, backV, backCell, mapO, AV.cells, AV.atom, AV.tree, fillV, repeatL, treeCell, freezeAll, eqCells, callV_T, callV_F, passN, passV, passCell, srcCells, sliceBounds, hiB, loB, thenQ_nA, thenQ_xA, thenQ_rA, runK_nA, runK_xA, runK_rA, wrap_i64, wrap_u64, wrap_u32, wrap_u8, wrap_u16, AV.atom, normA, lkE, fixObjs, fixBody, fixV, fixCell, rN, hi', hd, e2, hx]
          | true =>
            rw [g2] at e2
            by_cases hm : gR l i ∈ l.take i
            · have hx : goodR ds m l = false := by
                have : ¬ l.Nodup := fun h => (hn.1 (nodup_take h (i + 1))).2 hm
                simp [goodR, this]
              rw [decide_eq_true hm] at e3
              obtain ⟨p, q, r, s, hv, _, _, _, _⟩ := four (hl.at hi)
              rw [hv] at hd e2 e3
              simp only [List.map_cons, List.map_nil, List.cons_append, List.nil_append] at hd e2 e3
              simp [beqI, bneI, mm_min2, mm_max2, mm_min3, mm_max3, startE, lkE, lkX, lkE_rest, sx, substE, opVA, objs0, List.replicate, XA_seq, XA_region, XOA_go, goE_someA, opV, ev, putA, layAll, XOA_nil, XA_skip_seq, XA_skip_nil, XOA_gd, goG_tA, goG_uA, binV, binInt, unV, XA_ret_nil, XA_ret_cons, endFA_r, endFA_n, endTA_r, endTA_n, endRA_r, endRA_n, fltR, resultsA, resAs, resA, XA_block, XA_cond, pickX_t, pickX_f, pickX_b, XA_skip_blk, XA_skip_lp, XA_exit_seq, XA_exit_lp, XA_exit_blk, XA_exit_nil, load1, Ev.loadCells, objCells, bodyCells, setCells, AV.flat, AV.flat1, backR, backV, backCell, mapO, AV.cells, AV.atom, AV.tree, fillV, repeatL, treeCell, freezeAll, eqCells, callV_T, callV_F, passN, passV, passCell, srcCells, sliceBounds, hiB, loB, thenQ_nA, thenQ_xA, thenQ_rA, runK_nA, runK_xA, runK_rA, wrap_i64, wrap_u64, wrap_u32, wrap_u8, wrap_u16, AV.atom, normA, lkE, fixObjs, fixBody, fixV, fixCell, rN, hi', hi2, hi0, hd, hft, e2, e3, hx]
            · have hJ2 : (l.take (i + 1)).all (goodN ds m) = true ∧ (l.take (i + 1)).Nodup := ⟨by rw [ha, hJ.1, g2]; rfl, hn.2 ⟨hJ.2, hm⟩⟩
              rw [decide_eq_false hm] at e3
              obtain ⟨p, q, r, s, hv, _, _, _, _⟩ := four (hl.at hi)
              rw [hv] at hd e2 e3
              simp only [List.map_cons, List.map_nil, List.cons_append, List.nil_append] at hd e2 e3
              generalize hPP : ((l.take (i + 1)).all (goodN ds m) = true ∧ (l.take (i + 1)).Nodup) = PP at *
              simp [beqI, bneI, mm_min2, mm_max2, mm_min3, mm_max3, startE, lkE, lkX, lkE_rest, sx, substE, opVA, objs0, List.replicate, XA_seq, XA_region, XOA_go, goE_someA, opV, ev, putA, layAll, XOA_nil, XA_skip_seq, XA_skip_nil, XOA_gd, goG_tA, goG_uA, binV, binInt, unV, XA_ret_nil, XA_ret_cons, endFA_r, endFA_n, endTA_r, endTA_n, endRA_r, endRA_n, fltR, resultsA, resAs, resA, XA_block, XA_cond, pickX_t, pickX_f, pickX_b, XA_skip_blk, XA_skip_lp, XA_exit_seq, XA_exit_lp, XA_exit_blk, XA_exit_nil, load1, Ev.loadCells, objCells, bodyCells, setCells, AV.flat, AV.flat1, backR, backV, backCell, mapO, AV.cells, AV.atom, AV.tree, fillV, repeatL, treeCell, freezeAll, eqCells, callV_T, callV_F, passN, passV, passCell, srcCells, sliceBounds, hiB, loB, thenQ_nA, thenQ_xA, thenQ_rA, runK_nA, runK_xA, runK_rA, wrap_i64, wrap_u64, wrap_u32, wrap_u8, wrap_u16, AV.atom, normA, lkE, fixObjs, fixBody, fixV, fixCell, rN, hi', hi2, hi0, hd, hft, e2, e3, hw, hJ2]
        · intro hJ
          rw [List.take_length] at hJ
          have e4 := contains_ev l zero4 hl ok_zero4 (by omega)
          have hx : goodR ds m l = decide (zero4 ∈ l) := by
            have h1 : 1 ≤ l.length := by omega
            have h2 : l.length ≤ 12 := by omega
            unfold goodR
            rw [hJ.1, decide_eq_true hJ.2, decide_eq_true h1, decide_eq_true h2, g]
            simp
          rw [hx]
          generalize decide (zero4 ∈ l) = F at *
          simp only [rN, zero4, List.map_cons, List.map_nil] at e4
          simp [beqI, bneI, mm_min2, mm_max2, mm_min3, mm_max3, startE, lkE, lkX, lkE_rest, sx, substE, opVA, objs0, List.replicate, XA_seq, XA_region, XOA_go, goE_someA, opV, ev, putA, layAll, XOA_nil, XA_skip_seq, XA_skip_nil, XOA_gd, goG_tA, goG_uA, binV, binInt, unV, XA_ret_nil, XA_ret_cons, endFA_r, endFA_n, endTA_r, endTA_n, endRA_r, endRA_n, fltR, resultsA, resAs, resA, XA_block, XA_cond, pickX_t, pickX_f, pickX_b, XA_skip_blk, XA_skip_lp, XA_exit_seq, XA_exit_lp, XA_exit_blk, XA_exit_nil, load1, Ev.loadCells, objCells, bodyCells, setCells, AV.flat, AV.flat1, backR, backV, backCell, mapO, AV.cells, AV.atom, AV.tree, fillV, repeatL, treeCell, freezeAll, eqCells, callV_T, callV_F, passN, passV, passCell, srcCells, sliceBounds, hiB, loB, thenQ_nA, thenQ_xA, thenQ_rA, runK_nA, runK_xA, runK_rA, wrap_i64, wrap_u64, wrap_u32, wrap_u8, wrap_u16, AV.atom, normA, lkE, fixObjs, fixBody, fixV, fixCell, rN, base_ev, e4]
end Go.Proofs.Ytaflkcaebecpfaa
