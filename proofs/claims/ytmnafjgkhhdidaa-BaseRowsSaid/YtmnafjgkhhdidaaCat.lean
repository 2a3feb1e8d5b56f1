/- Catalogs: may one be, is a place one of a node. -/
import Derived.Test.YtmnafjgkhhdidaaHGood
import Derived.Test.YtmnafjgkhhdidaaDims
set_option linter.unusedSimpArgs false
set_option linter.unusedVariables false
set_option maxHeartbeats 4000000
set_option maxRecDepth 100000
namespace Go.Proofs.Ytmnafjgkhhdidaa
open Go.Ev
structure Dm where
  S : List Int
  U : List (List Int)
/-- The cells of dimensions. -/
def flatD : List Dm → List AV
  | [] => []
  | d :: r => rI d.S :: rR d.U :: flatD r
def gD (ds : List Dm) (i : Nat) : Dm := ds.getD i ⟨[], []⟩
theorem gD_mem {ds : List Dm} {i : Nat} (h : i < ds.length) : gD ds i ∈ ds := by
  unfold gD
  rw [List.getD_eq_getElem?_getD, List.getElem?_eq_getElem h]
  exact List.getElem_mem h
theorem gD_get {ds : List Dm} {i : Nat} (h : i < ds.length) : gD ds i = ds[i] := by
  unfold gD
  rw [List.getD_eq_getElem?_getD, List.getElem?_eq_getElem h]; rfl
theorem dropD : ∀ (ds : List Dm) (i : Nat), i < ds.length → List.drop (i * 2) (flatD ds) = rI (gD ds i).S :: rR (gD ds i).U :: flatD (ds.drop (i + 1))
  | [], i, h => by simp at h
  | d :: r, 0, _ => rfl
  | d :: r, i + 1, h => by
    rw [show (i + 1) * 2 = i * 2 + 2 from by omega]
    simp only [flatD, List.drop_succ_cons]
    exact dropD r i (by simpa using h)
theorem flatD_len : ∀ (ds : List Dm), (flatD ds).length = ds.length * 2
  | [] => rfl
  | d :: r => by simp [flatD, flatD_len r]; omega
def okC (ds : List Dm) : Prop := ds.length ≤ 9223372036854775807 ∧ ∀ d ∈ ds, okD d.S d.U
theorem okC.at {ds : List Dm} (h : okC ds) {i : Nat} (hi : i < ds.length) : okD (gD ds i).S (gD ds i).U := h.2 _ (gD_mem hi)
theorem fits_of {S : List Int} {U : List (List Int)} (h : okD S U) : S.length ≤ 9223372036854775807 ∧ fitsU U := ⟨h.1.1, h.2.1, fun l hl => (h.2.2 l hl).1⟩
def gCat : GT := .pair (.slice gDim) (.pair (.int .i64) .unit)
theorem rd_cat {cs : List AV} (h : RD gCat cs) : ∃ ds m, cs = [.ro ds.length (flatD ds), .int .i64 m] ∧ okC ds ∧ inI m := by
  obtain ⟨a, b, rfl, ⟨L, rfl, h1, h2⟩, c, d, rfl, hc, rfl⟩ := h
  obtain ⟨m, rfl, hm⟩ := rd_i64 hc
  have key : ∀ (L : List (List AV)), (∀ x ∈ L, RD gDim x) → ∃ ds : List Dm, L.length = ds.length ∧ L.flatten = flatD ds ∧ ∀ d ∈ ds, okD d.S d.U := by
    intro L
    induction L with
    | nil => intro _; exact ⟨[], rfl, rfl, fun d hd => by cases hd⟩
    | cons c L ih =>
      intro h
      obtain ⟨S, U, rfl, hD⟩ := rd_dim (h c (by simp))
      obtain ⟨ds, h1, h2, h3⟩ := ih fun x hx => h x (by simp [hx])
      refine ⟨⟨S, U⟩ :: ds, by simp [h1], by simp [h2, flatD], fun d hd => ?_⟩
      rcases List.mem_cons.1 hd with rfl | hd
      · exact hD
      · exact h3 d hd
  obtain ⟨ds, h3, h4, h5⟩ := key L h2
  refine ⟨ds, m, by rw [h3, h4]; rfl, ⟨?_, h5⟩, hm⟩
  rw [← h3]
  exact Nat.le_trans h1 (by decide)
theorem rdarg_cat {a : AV} (h : RDarg gCat a) : ∃ ds m, a = .agg [.ro ds.length (flatD ds), .int .i64 m] ∧ okC ds ∧ inI m := by
  simp only [RDarg, gCat, isAggG, if_true] at h
  obtain ⟨cs, rfl, h⟩ := h
  obtain ⟨ds, m, rfl, h2⟩ := rd_cat h
  exact ⟨ds, m, rfl, h2⟩
/-! ### Nodes and places: four bytes -/
def byte (x : Int) : Prop := 0 ≤ x ∧ x ≤ 255
def okN (v : List Int) : Prop := v.length = 4 ∧ ∀ x ∈ v, byte x
def nV (v : List Int) : List AV := v.map (.int .u8)
def gN : GT := .arr 4 (.int .u8)
theorem rdarg_n {a : AV} (h : RDarg gN a) : ∃ v, a = .agg (v.map (.int .u8)) ∧ okN v := by
  simp only [RDarg, gN, isAggG, if_true] at h
  obtain ⟨cs, rfl, L, hL, rfl, hx⟩ := h
  obtain ⟨l, h1, h2, h3⟩ := rd_map (f := AV.int .u8) (P := byte) (fun cs h => rd_u8 h) hx
  exact ⟨l, by rw [h2], by rw [← h1, hL], h3⟩
theorem okN.at {v : List Int} (h : okN v) {i : Nat} (hi : i < 4) : byte (gI v i) := by
  rw [gI_get _ _ (by rw [h.1]; exact hi)]
  exact h.2 _ (List.getElem_mem _)
theorem getN {v : List Int} (h : okN v) {i : Nat} (hi : i < 4) : (v.map (AV.int .u8))[i]? = some (.int .u8 (gI v i)) := by
  have hi' : i < v.length := by rw [h.1]; exact hi
  rw [List.getElem?_map, List.getElem?_eq_getElem hi', gI_get _ _ hi']
  rfl
theorem four {v : List Int} (h : okN v) : ∃ a b c d, v = [a, b, c, d] ∧ byte a ∧ byte b ∧ byte c ∧ byte d := by
  obtain ⟨h1, h2⟩ := h
  match v, h1, h2 with
  | [a, b, c, d], _, h2 => exact ⟨a, b, c, d, rfl, h2 a (by simp), h2 b (by simp), h2 c (by simp), h2 d (by simp)⟩
theorem eqN {v w : List Int} (hv : v.length = 4) (hw : w.length = 4) : eqCells [some .u8, some .u8, some .u8, some .u8] (v.map (.int .u8)) (w.map (.int .u8)) = some (decide (v = w)) := by
  match v, w, hv, hw with
  | [a, b, c, d], [a', b', c', d'], _, _ =>
    simp [eqCells]
    by_cases e1 : a = a' <;> by_cases e2 : b = b' <;> by_cases e3 : c = c' <;> by_cases e4 : d = d' <;> simp [e1, e2, e3, e4]
/-! ### May it be -/
def goodC (ds : List Dm) (m : Int) : Bool := (decide (1 ≤ ds.length) && decide (ds.length ≤ 4)) && ((decide (1 ≤ m) && decide (m ≤ 2)) && ds.all fun d => goodD d.S d.U)
theorem goodC_len {ds : List Dm} {m : Int} (h : goodC ds m = true) : 1 ≤ ds.length ∧ ds.length ≤ 4 ∧ 1 ≤ m ∧ m ≤ 2 := by
  simp [goodC] at h
  omega
theorem goodC_at {ds : List Dm} {m : Int} (h : goodC ds m = true) {i : Nat} (hi : i < ds.length) : goodD (gD ds i).S (gD ds i).U = true := by
  unfold goodC at h
  simp only [Bool.and_eq_true, List.all_eq_true] at h
  exact h.2.2 _ (gD_mem hi)
theorem sbetween_ev (n lo hi : Int) : cvF tab 46 [.int .i64 n, .int .i64 lo, .int .i64 hi] = some (.bool (decide (lo ≤ n) && decide (n ≤ hi))) := by
  refine cvFA_R (mf := Mf.f46) rfl rfl (by kernel_rfl) ?_
  by_cases h1 : lo ≤ n <;> by_cases h2 : n ≤ hi <;> simp [Mf.f46, beqI, bneI, mm_min2, mm_max2, mm_min3, mm_max3, startE, lkE, lkX, lkE_rest, sx, substE, opVA, objs0, List.replicate, XA_seq, XA_region, XOA_go, goE_someA, opV, ev, putA, layAll, XOA_nil, XA_skip_seq, XA_skip_nil, XOA_gd, goG_tA, goG_uA, binV, binInt, unV, XA_ret_nil, XA_ret_cons, endFA_r, endFA_n, endTA_r, endTA_n, endRA_r, endRA_n, endEA_r, endEA_n, List.take, fltR, resultsA, resAs, resA, XA_block, XA_cond, pickX_t, pickX_f, pickX_b, XA_skip_blk, XA_skip_lp, XA_exit_seq, XA_exit_lp, XA_exit_blk, XA_exit_nil, load1, Ev.loadCells, objCells, bodyCells, setCells, AV.flat, AV.flat1, backR, backV, backCell, mapO, AV.cells, AV.atom, AV.tree, fillV, repeatL, treeCell, freezeAll, eqCells, callV_T, callV_F, passN, passV, passCell, srcCells, sliceBounds, hiB, loB, thenQ_nA, thenQ_xA, thenQ_rA, runK_nA, runK_xA, runK_rA, wrap_i64, wrap_u64, wrap_u32, wrap_u8, wrap_u16, h1, h2]
theorem sgood_ev (ds : List Dm) (m : Int) (hC : okC ds) : cvF tab 30 [.agg [.ro ds.length (flatD ds), .int .i64 m]] = some (.bool (goodC ds m)) := by
  refine cvFA_R (mf := Mf.f30) rfl rfl (by kernel_rfl) ?_
  simp only [Mf.f30]
  by_cases c1 : 1 ≤ ds.length ∧ ds.length ≤ 4
  · have c1' : (1 : Int) ≤ (ds.length : Int) ∧ (ds.length : Int) ≤ 4 := by omega
    by_cases c2 : 1 ≤ m ∧ m ≤ 2
    · simp [beqI, bneI, mm_min2, mm_max2, mm_min3, mm_max3, startE, lkE, lkX, lkE_rest, sx, substE, opVA, objs0, List.replicate, XA_seq, XA_region, XOA_go, goE_someA, opV, ev, putA, layAll, XOA_nil, XA_skip_seq, XA_skip_nil, XOA_gd, goG_tA, goG_uA, binV, binInt, unV, XA_ret_nil, XA_ret_cons, endFA_r, endFA_n, endTA_r, endTA_n, endRA_r, endRA_n, endEA_r, endEA_n, List.take, fltR, resultsA, resAs, resA, XA_block, XA_cond, pickX_t, pickX_f, pickX_b, XA_skip_blk, XA_skip_lp, XA_exit_seq, XA_exit_lp, XA_exit_blk, XA_exit_nil, load1, Ev.loadCells, objCells, bodyCells, setCells, AV.flat, AV.flat1, backR, backV, backCell, mapO, AV.cells, AV.atom, AV.tree, fillV, repeatL, treeCell, freezeAll, eqCells, callV_T, callV_F, passN, passV, passCell, srcCells, sliceBounds, hiB, loB, thenQ_nA, thenQ_xA, thenQ_rA, runK_nA, runK_xA, runK_rA, wrap_i64, wrap_u64, wrap_u32, wrap_u8, wrap_u16, sbetween_ev, c1', c2]
      refine XA_for (fun i => ⟨[(17, .ro ds.length (flatD ds)), (18, .int .i64 ds.length), (19, .int .i64 i)], [⟨0, .none⟩, ⟨0, .none⟩]⟩)
        (fun i => (ds.take i).all (fun d => goodD d.S d.U) = true) ds.length 0 (Nat.zero_le _) (by simp [AV.atom, normA, lkE, fixObjs, fixBody, fixV, fixCell]) (by simp) ?_ ?_
      · intro i _ hi hJ
        have hi' : (i : Int) < ds.length := by omega
        obtain ⟨hS, hU⟩ := fits_of (hC.at hi)
        have hg := good_ev (gD ds i).S (gD ds i).U hS hU
        simp only [rI, rR] at hg
        have ht := all_take_succ (fun d : Dm => goodD d.S d.U) ds i hi
        rw [hJ, ← gD_get hi] at ht
        cases c : goodD (gD ds i).S (gD ds i).U with
        | true =>
          rw [c] at ht
          simp [beqI, bneI, mm_min2, mm_max2, mm_min3, mm_max3, startE, lkE, lkX, lkE_rest, sx, substE, opVA, objs0, List.replicate, XA_seq, XA_region, XOA_go, goE_someA, opV, ev, putA, layAll, XOA_nil, XA_skip_seq, XA_skip_nil, XOA_gd, goG_tA, goG_uA, binV, binInt, unV, XA_ret_nil, XA_ret_cons, endFA_r, endFA_n, endTA_r, endTA_n, endRA_r, endRA_n, endEA_r, endEA_n, List.take, fltR, resultsA, resAs, resA, XA_block, XA_cond, pickX_t, pickX_f, pickX_b, XA_skip_blk, XA_skip_lp, XA_exit_seq, XA_exit_lp, XA_exit_blk, XA_exit_nil, load1, Ev.loadCells, objCells, bodyCells, setCells, AV.flat, AV.flat1, backR, backV, backCell, mapO, AV.cells, AV.atom, AV.tree, fillV, repeatL, treeCell, freezeAll, eqCells, callV_T, callV_F, passN, passV, passCell, srcCells, sliceBounds, hiB, loB, thenQ_nA, thenQ_xA, thenQ_rA, runK_nA, runK_xA, runK_rA, wrap_i64, wrap_u64, wrap_u32, wrap_u8, wrap_u16, AV.atom, normA, lkE, fixObjs, fixBody, fixV, fixCell, hi', dropD ds i hi, rI, rR, hg, c, wrap_succ i ds.length hi (by omega)]
          simpa using ht
        | false =>
          have hf : goodC ds m = false := by
            unfold goodC
            rw [all_false (fun d : Dm => goodD d.S d.U) ds i hi (by rw [← gD_get hi]; exact c)]
            simp
          simp [beqI, bneI, mm_min2, mm_max2, mm_min3, mm_max3, startE, lkE, lkX, lkE_rest, sx, substE, opVA, objs0, List.replicate, XA_seq, XA_region, XOA_go, goE_someA, opV, ev, putA, layAll, XOA_nil, XA_skip_seq, XA_skip_nil, XOA_gd, goG_tA, goG_uA, binV, binInt, unV, XA_ret_nil, XA_ret_cons, endFA_r, endFA_n, endTA_r, endTA_n, endRA_r, endRA_n, endEA_r, endEA_n, List.take, fltR, resultsA, resAs, resA, XA_block, XA_cond, pickX_t, pickX_f, pickX_b, XA_skip_blk, XA_skip_lp, XA_exit_seq, XA_exit_lp, XA_exit_blk, XA_exit_nil, load1, Ev.loadCells, objCells, bodyCells, setCells, AV.flat, AV.flat1, backR, backV, backCell, mapO, AV.cells, AV.atom, AV.tree, fillV, repeatL, treeCell, freezeAll, eqCells, callV_T, callV_F, passN, passV, passCell, srcCells, sliceBounds, hiB, loB, thenQ_nA, thenQ_xA, thenQ_rA, runK_nA, runK_xA, runK_rA, wrap_i64, wrap_u64, wrap_u32, wrap_u8, wrap_u16, AV.atom, normA, lkE, fixObjs, fixBody, fixV, fixCell, hi', dropD ds i hi, rI, rR, hg, c, hf]
      · intro hJ
        rw [List.take_length] at hJ
        have hf : goodC ds m = true := by
          simp only [goodC, hJ, c1, c2, decide_true, Bool.and_true]
        simp [beqI, bneI, mm_min2, mm_max2, mm_min3, mm_max3, startE, lkE, lkX, lkE_rest, sx, substE, opVA, objs0, List.replicate, XA_seq, XA_region, XOA_go, goE_someA, opV, ev, putA, layAll, XOA_nil, XA_skip_seq, XA_skip_nil, XOA_gd, goG_tA, goG_uA, binV, binInt, unV, XA_ret_nil, XA_ret_cons, endFA_r, endFA_n, endTA_r, endTA_n, endRA_r, endRA_n, endEA_r, endEA_n, List.take, fltR, resultsA, resAs, resA, XA_block, XA_cond, pickX_t, pickX_f, pickX_b, XA_skip_blk, XA_skip_lp, XA_exit_seq, XA_exit_lp, XA_exit_blk, XA_exit_nil, load1, Ev.loadCells, objCells, bodyCells, setCells, AV.flat, AV.flat1, backR, backV, backCell, mapO, AV.cells, AV.atom, AV.tree, fillV, repeatL, treeCell, freezeAll, eqCells, callV_T, callV_F, passN, passV, passCell, srcCells, sliceBounds, hiB, loB, thenQ_nA, thenQ_xA, thenQ_rA, runK_nA, runK_xA, runK_rA, wrap_i64, wrap_u64, wrap_u32, wrap_u8, wrap_u16, AV.atom, normA, lkE, fixObjs, fixBody, fixV, fixCell, hf]
    · have c2' : (decide (1 ≤ m) && decide (m ≤ 2)) = false := by simp; omega
      have hf : goodC ds m = false := by unfold goodC; rw [c2']; simp
      simp [beqI, bneI, mm_min2, mm_max2, mm_min3, mm_max3, startE, lkE, lkX, lkE_rest, sx, substE, opVA, objs0, List.replicate, XA_seq, XA_region, XOA_go, goE_someA, opV, ev, putA, layAll, XOA_nil, XA_skip_seq, XA_skip_nil, XOA_gd, goG_tA, goG_uA, binV, binInt, unV, XA_ret_nil, XA_ret_cons, endFA_r, endFA_n, endTA_r, endTA_n, endRA_r, endRA_n, endEA_r, endEA_n, List.take, fltR, resultsA, resAs, resA, XA_block, XA_cond, pickX_t, pickX_f, pickX_b, XA_skip_blk, XA_skip_lp, XA_exit_seq, XA_exit_lp, XA_exit_blk, XA_exit_nil, load1, Ev.loadCells, objCells, bodyCells, setCells, AV.flat, AV.flat1, backR, backV, backCell, mapO, AV.cells, AV.atom, AV.tree, fillV, repeatL, treeCell, freezeAll, eqCells, callV_T, callV_F, passN, passV, passCell, srcCells, sliceBounds, hiB, loB, thenQ_nA, thenQ_xA, thenQ_rA, runK_nA, runK_xA, runK_rA, wrap_i64, wrap_u64, wrap_u32, wrap_u8, wrap_u16, sbetween_ev, c1', c2', hf]
  · have c1' : (decide ((1 : Int) ≤ (ds.length : Int)) && decide ((ds.length : Int) ≤ 4)) = false := by simp; omega
    have hf : goodC ds m = false := by
      unfold goodC
      rw [show (decide (1 ≤ ds.length) && decide (ds.length ≤ 4)) = false from by simp; omega]
      simp
    simp [beqI, bneI, mm_min2, mm_max2, mm_min3, mm_max3, startE, lkE, lkX, lkE_rest, sx, substE, opVA, objs0, List.replicate, XA_seq, XA_region, XOA_go, goE_someA, opV, ev, putA, layAll, XOA_nil, XA_skip_seq, XA_skip_nil, XOA_gd, goG_tA, goG_uA, binV, binInt, unV, XA_ret_nil, XA_ret_cons, endFA_r, endFA_n, endTA_r, endTA_n, endRA_r, endRA_n, endEA_r, endEA_n, List.take, fltR, resultsA, resAs, resA, XA_block, XA_cond, pickX_t, pickX_f, pickX_b, XA_skip_blk, XA_skip_lp, XA_exit_seq, XA_exit_lp, XA_exit_blk, XA_exit_nil, load1, Ev.loadCells, objCells, bodyCells, setCells, AV.flat, AV.flat1, backR, backV, backCell, mapO, AV.cells, AV.atom, AV.tree, fillV, repeatL, treeCell, freezeAll, eqCells, callV_T, callV_F, passN, passV, passCell, srcCells, sliceBounds, hiB, loB, thenQ_nA, thenQ_xA, thenQ_rA, runK_nA, runK_xA, runK_rA, wrap_i64, wrap_u64, wrap_u32, wrap_u8, wrap_u16, sbetween_ev, c1', hf]
/-- Is a place's number one of the node's? -/
def rightAt (ds : List Dm) (v a : List Int) (i : Nat) : Bool :=
  if i < ds.length then decide (gI a i < sizeD (gD ds i).S (gD ds i).U (gI v i)) else decide (gI v i = 0) && decide (gI a i = 0)
def rightC (ds : List Dm) (m : Int) (v a : List Int) : Bool := goodC ds m && (List.range 4).all (rightAt ds v a)
theorem sright_ev (ds : List Dm) (m : Int) (v a : List Int) (hC : okC ds) (hv : okN v) (ha : okN a) : cvF tab 37 [.agg [.ro ds.length (flatD ds), .int .i64 m], .agg (v.map (.int .u8)), .agg (a.map (.int .u8))] = some (.bool (rightC ds m v a)) := by
  refine cvFA_R (mf := Mf.f37) rfl rfl (by kernel_rfl) ?_
  simp only [Mf.f37]
  cases g : goodC ds m with
  | false => simp [beqI, bneI, mm_min2, mm_max2, mm_min3, mm_max3, startE, lkE, lkX, lkE_rest, sx, substE, opVA, objs0, List.replicate, XA_seq, XA_region, XOA_go, goE_someA, opV, ev, putA, layAll, XOA_nil, XA_skip_seq, XA_skip_nil, XOA_gd, goG_tA, goG_uA, binV, binInt, unV, XA_ret_nil, XA_ret_cons, endFA_r, endFA_n, endTA_r, endTA_n, endRA_r, endRA_n, endEA_r, endEA_n, List.take, fltR, resultsA, resAs, resA, XA_block, XA_cond, pickX_t, pickX_f, pickX_b, XA_skip_blk, XA_skip_lp, XA_exit_seq, XA_exit_lp, XA_exit_blk, XA_exit_nil, load1, Ev.loadCells, objCells, bodyCells, setCells, AV.flat, AV.flat1, backR, backV, backCell, mapO, AV.cells, AV.atom, AV.tree, fillV, repeatL, treeCell, freezeAll, eqCells, callV_T, callV_F, passN, passV, passCell, srcCells, sliceBounds, hiB, loB, thenQ_nA, thenQ_xA, thenQ_rA, runK_nA, runK_xA, runK_rA, wrap_i64, wrap_u64, wrap_u32, wrap_u8, wrap_u16, sgood_ev ds m hC, g, rightC]
  | true =>
    have hl := goodC_len g
    simp [beqI, bneI, mm_min2, mm_max2, mm_min3, mm_max3, startE, lkE, lkX, lkE_rest, sx, substE, opVA, objs0, List.replicate, XA_seq, XA_region, XOA_go, goE_someA, opV, ev, putA, layAll, XOA_nil, XA_skip_seq, XA_skip_nil, XOA_gd, goG_tA, goG_uA, binV, binInt, unV, XA_ret_nil, XA_ret_cons, endFA_r, endFA_n, endTA_r, endTA_n, endRA_r, endRA_n, endEA_r, endEA_n, List.take, fltR, resultsA, resAs, resA, XA_block, XA_cond, pickX_t, pickX_f, pickX_b, XA_skip_blk, XA_skip_lp, XA_exit_seq, XA_exit_lp, XA_exit_blk, XA_exit_nil, load1, Ev.loadCells, objCells, bodyCells, setCells, AV.flat, AV.flat1, backR, backV, backCell, mapO, AV.cells, AV.atom, AV.tree, fillV, repeatL, treeCell, freezeAll, eqCells, callV_T, callV_F, passN, passV, passCell, srcCells, sliceBounds, hiB, loB, thenQ_nA, thenQ_xA, thenQ_rA, runK_nA, runK_xA, runK_rA, wrap_i64, wrap_u64, wrap_u32, wrap_u8, wrap_u16, sgood_ev ds m hC, g]
    refine XA_for (fun i => ⟨[(3, .ptr 0 0 0), (4, .ptr 1 0 0), (5, .ptr 2 0 0), (11, .int .i64 i)], [⟨0, .var [.ro ds.length (flatD ds), .int .i64 m]⟩, ⟨0, .var (v.map (.int .u8))⟩, ⟨0, .var (a.map (.int .u8))⟩]⟩)
      (fun i => (List.range i).all (rightAt ds v a) = true) 4 0 (by omega) (by simp [AV.atom, normA, lkE, fixObjs, fixBody, fixV, fixCell]) (by simp) ?_ ?_
    · intro i _ hi hJ
      have hi4 : (i : Int) < 4 := by omega
      have hbv := hv.at hi
      have hba := ha.at hi
      unfold byte at hbv hba
      have w1 : IntKind.i64.wrap (gI v i) = gI v i := wrap_i64 (by omega) (by omega)
      have w2 : IntKind.i64.wrap (gI a i) = gI a i := wrap_i64 (by omega) (by omega)
      have hs := range_take_succ (rightAt ds v a) i
      rw [hJ] at hs
      have hfalse : rightAt ds v a i = false → rightC ds m v a = false := fun h => by
        unfold rightC
        rw [range_false (rightAt ds v a) 4 i hi h]
        simp
      by_cases c : i < ds.length
      · have c' : ¬ (ds.length : Int) ≤ (i : Int) := by omega
        have c'' : (i : Int) < ds.length := by omega
        obtain ⟨hS, hU⟩ := fits_of (hC.at c)
        have he := size_ev (gD ds i).S (gD ds i).U (gI v i) hS hU
        simp only [rI, rR] at he
        by_cases h : gI a i < sizeD (gD ds i).S (gD ds i).U (gI v i)
        · have h' : ¬ sizeD (gD ds i).S (gD ds i).U (gI v i) ≤ gI a i := by omega
          have hr : rightAt ds v a i = true := by simp [rightAt, c, h]
          rw [hr] at hs
          simp [beqI, bneI, mm_min2, mm_max2, mm_min3, mm_max3, startE, lkE, lkX, lkE_rest, sx, substE, opVA, objs0, List.replicate, XA_seq, XA_region, XOA_go, goE_someA, opV, ev, putA, layAll, XOA_nil, XA_skip_seq, XA_skip_nil, XOA_gd, goG_tA, goG_uA, binV, binInt, unV, XA_ret_nil, XA_ret_cons, endFA_r, endFA_n, endTA_r, endTA_n, endRA_r, endRA_n, endEA_r, endEA_n, List.take, fltR, resultsA, resAs, resA, XA_block, XA_cond, pickX_t, pickX_f, pickX_b, XA_skip_blk, XA_skip_lp, XA_exit_seq, XA_exit_lp, XA_exit_blk, XA_exit_nil, load1, Ev.loadCells, objCells, bodyCells, setCells, AV.flat, AV.flat1, backR, backV, backCell, mapO, AV.cells, AV.atom, AV.tree, fillV, repeatL, treeCell, freezeAll, eqCells, callV_T, callV_F, passN, passV, passCell, srcCells, sliceBounds, hiB, loB, thenQ_nA, thenQ_xA, thenQ_rA, runK_nA, runK_xA, runK_rA, wrap_i64, wrap_u64, wrap_u32, wrap_u8, wrap_u16, AV.atom, normA, lkE, fixObjs, fixBody, fixV, fixCell, hi4, c', c'', getN ha hi, getN hv hi, w1, w2, dropD ds i c, rI, rR, he, h', wrap_succ i 4 hi (by omega)]
          simpa using hs
        · have h' : sizeD (gD ds i).S (gD ds i).U (gI v i) ≤ gI a i := by omega
          have hr : rightAt ds v a i = false := by simp [rightAt, c, h]
          simp [beqI, bneI, mm_min2, mm_max2, mm_min3, mm_max3, startE, lkE, lkX, lkE_rest, sx, substE, opVA, objs0, List.replicate, XA_seq, XA_region, XOA_go, goE_someA, opV, ev, putA, layAll, XOA_nil, XA_skip_seq, XA_skip_nil, XOA_gd, goG_tA, goG_uA, binV, binInt, unV, XA_ret_nil, XA_ret_cons, endFA_r, endFA_n, endTA_r, endTA_n, endRA_r, endRA_n, endEA_r, endEA_n, List.take, fltR, resultsA, resAs, resA, XA_block, XA_cond, pickX_t, pickX_f, pickX_b, XA_skip_blk, XA_skip_lp, XA_exit_seq, XA_exit_lp, XA_exit_blk, XA_exit_nil, load1, Ev.loadCells, objCells, bodyCells, setCells, AV.flat, AV.flat1, backR, backV, backCell, mapO, AV.cells, AV.atom, AV.tree, fillV, repeatL, treeCell, freezeAll, eqCells, callV_T, callV_F, passN, passV, passCell, srcCells, sliceBounds, hiB, loB, thenQ_nA, thenQ_xA, thenQ_rA, runK_nA, runK_xA, runK_rA, wrap_i64, wrap_u64, wrap_u32, wrap_u8, wrap_u16, AV.atom, normA, lkE, fixObjs, fixBody, fixV, fixCell, hi4, c', c'', getN ha hi, getN hv hi, w1, w2, dropD ds i c, rI, rR, he, h', hfalse hr]
      · have c' : (ds.length : Int) ≤ (i : Int) := by omega
        by_cases h1 : gI v i = 0
        · by_cases h2 : gI a i = 0
          · have hr : rightAt ds v a i = true := by simp [rightAt, c, h1, h2]
            rw [hr] at hs
            simp [beqI, bneI, mm_min2, mm_max2, mm_min3, mm_max3, startE, lkE, lkX, lkE_rest, sx, substE, opVA, objs0, List.replicate, XA_seq, XA_region, XOA_go, goE_someA, opV, ev, putA, layAll, XOA_nil, XA_skip_seq, XA_skip_nil, XOA_gd, goG_tA, goG_uA, binV, binInt, unV, XA_ret_nil, XA_ret_cons, endFA_r, endFA_n, endTA_r, endTA_n, endRA_r, endRA_n, endEA_r, endEA_n, List.take, fltR, resultsA, resAs, resA, XA_block, XA_cond, pickX_t, pickX_f, pickX_b, XA_skip_blk, XA_skip_lp, XA_exit_seq, XA_exit_lp, XA_exit_blk, XA_exit_nil, load1, Ev.loadCells, objCells, bodyCells, setCells, AV.flat, AV.flat1, backR, backV, backCell, mapO, AV.cells, AV.atom, AV.tree, fillV, repeatL, treeCell, freezeAll, eqCells, callV_T, callV_F, passN, passV, passCell, srcCells, sliceBounds, hiB, loB, thenQ_nA, thenQ_xA, thenQ_rA, runK_nA, runK_xA, runK_rA, wrap_i64, wrap_u64, wrap_u32, wrap_u8, wrap_u16, AV.atom, normA, lkE, fixObjs, fixBody, fixV, fixCell, hi4, c', getN ha hi, getN hv hi, h1, h2, wrap_succ i 4 hi (by omega)]
            simpa using hs
          · have hr : rightAt ds v a i = false := by simp [rightAt, c, h1, h2]
            simp [beqI, bneI, mm_min2, mm_max2, mm_min3, mm_max3, startE, lkE, lkX, lkE_rest, sx, substE, opVA, objs0, List.replicate, XA_seq, XA_region, XOA_go, goE_someA, opV, ev, putA, layAll, XOA_nil, XA_skip_seq, XA_skip_nil, XOA_gd, goG_tA, goG_uA, binV, binInt, unV, XA_ret_nil, XA_ret_cons, endFA_r, endFA_n, endTA_r, endTA_n, endRA_r, endRA_n, endEA_r, endEA_n, List.take, fltR, resultsA, resAs, resA, XA_block, XA_cond, pickX_t, pickX_f, pickX_b, XA_skip_blk, XA_skip_lp, XA_exit_seq, XA_exit_lp, XA_exit_blk, XA_exit_nil, load1, Ev.loadCells, objCells, bodyCells, setCells, AV.flat, AV.flat1, backR, backV, backCell, mapO, AV.cells, AV.atom, AV.tree, fillV, repeatL, treeCell, freezeAll, eqCells, callV_T, callV_F, passN, passV, passCell, srcCells, sliceBounds, hiB, loB, thenQ_nA, thenQ_xA, thenQ_rA, runK_nA, runK_xA, runK_rA, wrap_i64, wrap_u64, wrap_u32, wrap_u8, wrap_u16, AV.atom, normA, lkE, fixObjs, fixBody, fixV, fixCell, hi4, c', getN ha hi, getN hv hi, h1, h2, hfalse hr]
        · have hr : rightAt ds v a i = false := by simp [rightAt, c, h1]
          simp [beqI, bneI, mm_min2, mm_max2, mm_min3, mm_max3, startE, lkE, lkX, lkE_rest, sx, substE, opVA, objs0, List.replicate, XA_seq, XA_region, XOA_go, goE_someA, opV, ev, putA, layAll, XOA_nil, XA_skip_seq, XA_skip_nil, XOA_gd, goG_tA, goG_uA, binV, binInt, unV, XA_ret_nil, XA_ret_cons, endFA_r, endFA_n, endTA_r, endTA_n, endRA_r, endRA_n, endEA_r, endEA_n, List.take, fltR, resultsA, resAs, resA, XA_block, XA_cond, pickX_t, pickX_f, pickX_b, XA_skip_blk, XA_skip_lp, XA_exit_seq, XA_exit_lp, XA_exit_blk, XA_exit_nil, load1, Ev.loadCells, objCells, bodyCells, setCells, AV.flat, AV.flat1, backR, backV, backCell, mapO, AV.cells, AV.atom, AV.tree, fillV, repeatL, treeCell, freezeAll, eqCells, callV_T, callV_F, passN, passV, passCell, srcCells, sliceBounds, hiB, loB, thenQ_nA, thenQ_xA, thenQ_rA, runK_nA, runK_xA, runK_rA, wrap_i64, wrap_u64, wrap_u32, wrap_u8, wrap_u16, AV.atom, normA, lkE, fixObjs, fixBody, fixV, fixCell, hi4, c', getN ha hi, getN hv hi, h1, hfalse hr]
    · intro hJ
      have hr : rightC ds m v a = true := by
        unfold rightC
        rw [g, hJ]; rfl
      simp [beqI, bneI, mm_min2, mm_max2, mm_min3, mm_max3, startE, lkE, lkX, lkE_rest, sx, substE, opVA, objs0, List.replicate, XA_seq, XA_region, XOA_go, goE_someA, opV, ev, putA, layAll, XOA_nil, XA_skip_seq, XA_skip_nil, XOA_gd, goG_tA, goG_uA, binV, binInt, unV, XA_ret_nil, XA_ret_cons, endFA_r, endFA_n, endTA_r, endTA_n, endRA_r, endRA_n, endEA_r, endEA_n, List.take, fltR, resultsA, resAs, resA, XA_block, XA_cond, pickX_t, pickX_f, pickX_b, XA_skip_blk, XA_skip_lp, XA_exit_seq, XA_exit_lp, XA_exit_blk, XA_exit_nil, load1, Ev.loadCells, objCells, bodyCells, setCells, AV.flat, AV.flat1, backR, backV, backCell, mapO, AV.cells, AV.atom, AV.tree, fillV, repeatL, treeCell, freezeAll, eqCells, callV_T, callV_F, passN, passV, passCell, srcCells, sliceBounds, hiB, loB, thenQ_nA, thenQ_xA, thenQ_rA, runK_nA, runK_xA, runK_rA, wrap_i64, wrap_u64, wrap_u32, wrap_u8, wrap_u16, AV.atom, normA, lkE, fixObjs, fixBody, fixV, fixCell, hr]
def levelsC (ds : List Dm) (m i : Int) : Int := if goodC ds m = true ∧ 0 ≤ i ∧ i < ds.length then ((gD ds i.toNat).S.length : Int) + 1 else 0
end Go.Proofs.Ytmnafjgkhhdidaa
