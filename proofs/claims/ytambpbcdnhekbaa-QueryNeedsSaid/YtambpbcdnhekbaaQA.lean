/- Queries: fixes, may they be. -/
import Derived.Test.YtambpbcdnhekbaaLatRef
import Derived.Test.YtambpbcdnhekbaaLight
set_option linter.unusedSimpArgs false
set_option linter.unusedVariables false
set_option maxHeartbeats 8000000
set_option maxRecDepth 100000
namespace Go.Proofs.Ytambpbcdnhekbaa
open Go.Ev
structure Fx where
  d : Int
  l : Int
  ms : List Int
  deriving DecidableEq
def okF (f : Fx) : Prop := inI f.d ∧ inI f.l ∧ okI f.ms
def fixC (f : Fx) : List AV := [.int .i64 f.d, .int .i64 f.l, rI f.ms]
def flatF (F : List Fx) : List AV := F.flatMap fixC
theorem flatF_len (F : List Fx) : (flatF F).length = F.length * 3 := by
  induction F with
  | nil => rfl
  | cons f F ih => simp only [flatF, List.flatMap_cons, List.length_append] at *; rw [ih]; simp [fixC]; omega
theorem flatF_drop (F : List Fx) (i : Nat) : (flatF F).drop (i * 3) = flatF (F.drop i) := by
  induction F generalizing i with
  | nil => simp [flatF]
  | cons f F ih =>
    cases i with
    | zero => simp
    | succ i =>
      rw [show (i + 1) * 3 = i * 3 + 3 from by omega]
      simp only [flatF, List.flatMap_cons, fixC, List.cons_append, List.nil_append, List.drop_succ_cons]
      exact ih i
theorem dropF (F : List Fx) (i : Nat) (h : i < F.length) : (flatF F).drop (i * 3) = fixC F[i] ++ flatF (F.drop (i + 1)) := by
  rw [flatF_drop, List.drop_eq_getElem_cons h]
  rfl
theorem flatF_append (a b : List Fx) : flatF (a ++ b) = flatF a ++ flatF b := List.flatMap_append ..
theorem flatF_tree (F : List Fx) : (flatF F).all AV.tree = true := by
  refine List.all_eq_true.2 fun x hx => ?_
  obtain ⟨f, _, h⟩ := List.mem_flatMap.1 hx
  simp only [fixC, List.mem_cons, List.not_mem_nil, or_false] at h
  rcases h with rfl | rfl | rfl <;> rfl
structure Qy where
  a : Int
  b : Int
  c : Int
  e : Int
  F : List Fx
  t : Int
  me : Int
  fn : Int
  li : Int
  deriving DecidableEq
structure okQ (q : Qy) : Prop where
  a : byte q.a
  b : byte q.b
  c : byte q.c
  e : byte q.e
  F : q.F.length ≤ 9223372036854775807 ∧ ∀ f ∈ q.F, okF f
  t : inI q.t
  me : inI q.me
  fn : inI q.fn
  li : inI q.li
def Qy.n (q : Qy) : List Int := [q.a, q.b, q.c, q.e]
def qyC (q : Qy) : List AV := [.int .u8 q.a, .int .u8 q.b, .int .u8 q.c, .int .u8 q.e, .ro q.F.length (flatF q.F), .int .i64 q.t, .int .i64 q.me, .int .i64 q.fn, .int .i64 q.li]
theorem okQ.n {q : Qy} (h : okQ q) : okN q.n := okN4 h.a h.b h.c h.e
def gFx : GT := .pair (.int .i64) (.pair (.int .i64) (.pair (.slice (.int .i64)) .unit))
def gQy : GT := .pair gN (.pair (.slice gFx) (.pair (.int .i64) (.pair (.int .i64) (.pair (.int .i64) (.pair (.int .i64) .unit)))))
theorem rd_fx {cs : List AV} (h : RD gFx cs) : ∃ f, cs = fixC f ∧ okF f := by
  obtain ⟨p, q, rfl, hp, r, s, rfl, hr, t, u, rfl, ht, rfl⟩ := h
  obtain ⟨d, rfl, hd⟩ := rd_i64 hp
  obtain ⟨l, rfl, hl⟩ := rd_i64 hr
  obtain ⟨ms, rfl, hm⟩ := rd_ints ht
  exact ⟨⟨d, l, ms⟩, rfl, hd, hl, hm⟩
theorem rd_fxs {cs : List AV} (h : RD (.slice gFx) cs) : ∃ F : List Fx, cs = [.ro F.length (flatF F)] ∧ F.length ≤ 9223372036854775807 ∧ ∀ f ∈ F, okF f := by
  obtain ⟨L, rfl, h2, h3⟩ := h
  have key : ∀ (L : List (List AV)), (∀ x ∈ L, RD gFx x) → ∃ l : List Fx, L.length = l.length ∧ L.flatten = flatF l ∧ ∀ f ∈ l, okF f := by
    intro L
    induction L with
    | nil => intro _; exact ⟨[], rfl, rfl, fun d hd => by cases hd⟩
    | cons c L ih =>
      intro h
      obtain ⟨f, rfl, hf⟩ := rd_fx (h c (by simp))
      obtain ⟨l, h1, h2, h3⟩ := ih fun x hx => h x (by simp [hx])
      refine ⟨f :: l, by simp [h1], by simp [h2, flatF], fun d hd => ?_⟩
      rcases List.mem_cons.1 hd with rfl | hd
      · exact hf
      · exact h3 d hd
  obtain ⟨l, h4, h5, h6⟩ := key L h3
  refine ⟨l, by rw [h4, h5], ?_, h6⟩
  rw [← h4]
  exact Nat.le_trans h2 (by decide)
theorem rd_qy {cs : List AV} (h : RD gQy cs) : ∃ q, cs = qyC q ∧ okQ q := by
  obtain ⟨p, r, rfl, hp, s, t, rfl, hs, u, v, rfl, hu, w, x, rfl, hw, y, z, rfl, hy, c, d, rfl, hc, rfl⟩ := h
  obtain ⟨L, hL, rfl, hx⟩ := hp
  obtain ⟨F, rfl, hF⟩ := rd_fxs hs
  obtain ⟨t, rfl, ht⟩ := rd_i64 hu
  obtain ⟨me, rfl, hme⟩ := rd_i64 hw
  obtain ⟨fn, rfl, hfn⟩ := rd_i64 hy
  obtain ⟨li, rfl, hli⟩ := rd_i64 hc
  match L, hL, hx with
  | [l1, l2, l3, l4], _, hx =>
    obtain ⟨a, rfl, ha⟩ := rd_u8 (hx l1 (by simp))
    obtain ⟨b, rfl, hb⟩ := rd_u8 (hx l2 (by simp))
    obtain ⟨c, rfl, hc⟩ := rd_u8 (hx l3 (by simp))
    obtain ⟨e, rfl, he⟩ := rd_u8 (hx l4 (by simp))
    exact ⟨⟨a, b, c, e, F, t, me, fn, li⟩, rfl, ⟨ha, hb, hc, he, hF, ht, hme, hfn, hli⟩⟩
theorem rdarg_qy {x : AV} (h : RDarg gQy x) : ∃ q, x = .agg (qyC q) ∧ okQ q := by
  simp only [RDarg, gQy, isAggG, if_true] at h
  obtain ⟨cs, rfl, h⟩ := h
  obtain ⟨q, rfl, h2⟩ := rd_qy h
  exact ⟨q, rfl, h2⟩
/-! ### May they be -/
def msAt (sz : Int) (ms : List Int) (i : Nat) : Bool := (decide (0 ≤ gI ms i) && decide (gI ms i < sz)) && (decide (i = 0) || decide (gI ms (i - 1) < gI ms i))
def msG (sz : Int) (ms : List Int) : Bool := (List.range ms.length).all (msAt sz ms)
def szF (ds : List Dm) (f : Fx) : Int := sizeD (gD ds f.d.toNat).S (gD ds f.d.toNat).U f.l
def fixG (ds : List Dm) (f : Fx) : Bool := (decide (0 ≤ f.d) && decide (f.d < ds.length)) && (decide (0 < f.ms.length) && msG (szF ds f) f.ms)
theorem qbetween_ev (n lo hi : Int) : cvF tab 56 [.int .i64 n, .int .i64 lo, .int .i64 hi] = some (.bool (decide (lo ≤ n) && decide (n ≤ hi))) := by
  refine cvFA_R (mf := Mf.f56) rfl rfl (by kernel_rfl) ?_
  simp only [Mf.f56]
  by_cases h : lo ≤ n <;> simp [beqI, bneI, mm_min2, mm_max2, mm_min3, mm_max3, startE, lkE, lkX, lkE_rest, sx, substE, opVA, objs0, List.replicate, XA_seq, XA_region, XOA_go, goE_someA, opV, ev, putA, layAll, XOA_nil, XA_skip_seq, XA_skip_nil, XOA_gd, goG_tA, goG_uA, binV, binInt, unV, XA_ret_nil, XA_ret_cons, endFA_r, endFA_n, endTA_r, endTA_n, endRA_r, endRA_n, fltR, resultsA, resAs, resA, XA_block, XA_cond, pickX_t, pickX_f, pickX_b, XA_skip_blk, XA_skip_lp, XA_exit_seq, XA_exit_lp, XA_exit_blk, XA_exit_nil, load1, Ev.loadCells, objCells, bodyCells, setCells, AV.flat, AV.flat1, backR, backV, backCell, mapO, AV.cells, AV.atom, AV.tree, fillV, repeatL, treeCell, freezeAll, eqCells, callV_T, callV_F, passN, passV, passCell, srcCells, sliceBounds, hiB, loB, thenQ_nA, thenQ_xA, thenQ_rA, runK_nA, runK_xA, runK_rA, wrap_i64, wrap_u64, wrap_u32, wrap_u8, wrap_u16, h]
theorem range_snoc (p : Nat → Bool) (i : Nat) : (List.range (i + 1)).all p = ((List.range i).all p && p i) := by
  rw [List.range_succ, List.all_append]; simp
theorem range_bad {p : Nat → Bool} {n i : Nat} (hi : i < n) (h : p i = false) : (List.range n).all p = false := by
  rw [List.all_eq_false]
  exact ⟨i, List.mem_range.2 hi, by simp [h]⟩
theorem fix_ev (ds : List Dm) (m : Int) (f : Fx) (hC : okC ds) (hl : ds.length ≤ 1000) (hf : okF f) : cvF tab 57 [.agg [.ro ds.length (flatD ds), .int .i64 m], .agg (fixC f)] = some (.bool (fixG ds f)) := by
  refine cvFA_R (mf := Mf.f57) rfl rfl (by kernel_rfl) ?_
  simp only [Mf.f57]
  have w1 : IntKind.i64.wrap ((ds.length : Int) - 1) = (ds.length : Int) - 1 := wrap_i64 (by omega) (by omega)
  have b1 := qbetween_ev f.d 0 ((ds.length : Int) - 1)
  obtain ⟨d, lv, ms⟩ := f
  obtain ⟨hd, hlv, hms⟩ := hf
  simp only at hd hlv hms b1
  by_cases c1 : 0 ≤ d
  · by_cases c2 : d < ds.length
    · have c2' : d ≤ (ds.length : Int) - 1 := by omega
      obtain ⟨k, rfl⟩ : ∃ k : Nat, d = k := ⟨d.toNat, by omega⟩
      have hk : k < ds.length := by omega
      rw [decide_eq_true c1, decide_eq_true c2'] at b1
      by_cases c3 : ms.length = 0
      · have hms0 : ms = [] := List.length_eq_zero_iff.1 c3
        subst hms0
        simp [beqI, bneI, mm_min2, mm_max2, mm_min3, mm_max3, startE, lkE, lkX, lkE_rest, sx, substE, opVA, objs0, List.replicate, XA_seq, XA_region, XOA_go, goE_someA, opV, ev, putA, layAll, XOA_nil, XA_skip_seq, XA_skip_nil, XOA_gd, goG_tA, goG_uA, binV, binInt, unV, XA_ret_nil, XA_ret_cons, endFA_r, endFA_n, endTA_r, endTA_n, endRA_r, endRA_n, fltR, resultsA, resAs, resA, XA_block, XA_cond, pickX_t, pickX_f, pickX_b, XA_skip_blk, XA_skip_lp, XA_exit_seq, XA_exit_lp, XA_exit_blk, XA_exit_nil, load1, Ev.loadCells, objCells, bodyCells, setCells, AV.flat, AV.flat1, backR, backV, backCell, mapO, AV.cells, AV.atom, AV.tree, fillV, repeatL, treeCell, freezeAll, eqCells, callV_T, callV_F, passN, passV, passCell, srcCells, sliceBounds, hiB, loB, thenQ_nA, thenQ_xA, thenQ_rA, runK_nA, runK_xA, runK_rA, wrap_i64, wrap_u64, wrap_u32, wrap_u8, wrap_u16, fixC, rI, w1, b1, fixG]
      · have c3' : ¬ (ms.length : Int) = 0 := by omega
        have c3n : ¬ ms = [] := fun h => c3 (by rw [h]; rfl)
        have c3p : 0 < ms.length := by omega
        have hdr := dropD ds k hk
        have hD := hC.at hk
        have e1 := size_ev (gD ds k).S (gD ds k).U lv (fits_of hD).1 (fits_of hD).2
        have hsz : szF ds ⟨k, lv, ms⟩ = sizeD (gD ds k).S (gD ds k).U lv := rfl
        have hx : fixG ds ⟨k, lv, ms⟩ = msG (szF ds ⟨k, lv, ms⟩) ms := by simp [fixG, c2, c3p, hk]
        have hsr := sizeD_range (gD ds k).S (gD ds k).U lv
        rw [hx, hsz]
        generalize sizeD (gD ds k).S (gD ds k).U lv = Z at *
        have w2 : IntKind.i64.wrap (Z - 1) = Z - 1 := wrap_i64 (by omega) (by omega)
        simp only [rI, rR] at hdr e1
        simp [beqI, bneI, mm_min2, mm_max2, mm_min3, mm_max3, startE, lkE, lkX, lkE_rest, sx, substE, opVA, objs0, List.replicate, XA_seq, XA_region, XOA_go, goE_someA, opV, ev, putA, layAll, XOA_nil, XA_skip_seq, XA_skip_nil, XOA_gd, goG_tA, goG_uA, binV, binInt, unV, XA_ret_nil, XA_ret_cons, endFA_r, endFA_n, endTA_r, endTA_n, endRA_r, endRA_n, fltR, resultsA, resAs, resA, XA_block, XA_cond, pickX_t, pickX_f, pickX_b, XA_skip_blk, XA_skip_lp, XA_exit_seq, XA_exit_lp, XA_exit_blk, XA_exit_nil, load1, Ev.loadCells, objCells, bodyCells, setCells, AV.flat, AV.flat1, backR, backV, backCell, mapO, AV.cells, AV.atom, AV.tree, fillV, repeatL, treeCell, freezeAll, eqCells, callV_T, callV_F, passN, passV, passCell, srcCells, sliceBounds, hiB, loB, thenQ_nA, thenQ_xA, thenQ_rA, runK_nA, runK_xA, runK_rA, wrap_i64, wrap_u64, wrap_u32, wrap_u8, wrap_u16, fixC, rI, w1, b1, c3n, hdr, e1, c2, hk]
        refine XA_for (fun i => ⟨[(3, .ptr 1 0 0), (5, .int .i64 Z), (32, rI ms), (33, .int .i64 ms.length), (34, .int .i64 i)], [⟨0, .none⟩, ⟨0, .var [.int .i64 k, .int .i64 lv, rI ms]⟩]⟩)
          (fun i => (List.range i).all (msAt Z ms) = true) ms.length 0 (Nat.zero_le _) (by simp [AV.atom, normA, lkE, fixObjs, fixBody, fixV, fixCell, rI]) (by simp) ?_ ?_
        · intro i _ hi hJ
          have hi' : (i : Int) < ms.length := by omega
          have ix := idxI ms i hi
          have hgi := gI_get ms i hi
          have hb := qbetween_ev ms[i] 0 (Z - 1)
          have hw := wrap_succ i ms.length hi (by have := hms.1; omega)
          have hsn := range_snoc (msAt Z ms) i
          have hbad : msAt Z ms i = false → msG Z ms = false := fun h => range_bad hi h
          have hZ : decide (ms[i] ≤ Z - 1) = decide (ms[i] < Z) := decide_eq_decide.2 (by omega)
          rw [hZ] at hb
          have hat : msAt Z ms i = ((decide (0 ≤ ms[i]) && decide (ms[i] < Z)) && (decide (i = 0) || decide (gI ms (i - 1) < ms[i]))) := by unfold msAt; rw [hgi]
          rw [hsn, hJ, Bool.true_and]
          rw [hat] at hbad ⊢
          by_cases c4 : (decide (0 ≤ ms[i]) && decide (ms[i] < Z)) = true
          · rw [c4] at hb hbad ⊢
            by_cases c5 : i = 0
            · subst c5
              simp at hw
              simp [beqI, bneI, mm_min2, mm_max2, mm_min3, mm_max3, startE, lkE, lkX, lkE_rest, sx, substE, opVA, objs0, List.replicate, XA_seq, XA_region, XOA_go, goE_someA, opV, ev, putA, layAll, XOA_nil, XA_skip_seq, XA_skip_nil, XOA_gd, goG_tA, goG_uA, binV, binInt, unV, XA_ret_nil, XA_ret_cons, endFA_r, endFA_n, endTA_r, endTA_n, endRA_r, endRA_n, fltR, resultsA, resAs, resA, XA_block, XA_cond, pickX_t, pickX_f, pickX_b, XA_skip_blk, XA_skip_lp, XA_exit_seq, XA_exit_lp, XA_exit_blk, XA_exit_nil, load1, Ev.loadCells, objCells, bodyCells, setCells, AV.flat, AV.flat1, backR, backV, backCell, mapO, AV.cells, AV.atom, AV.tree, fillV, repeatL, treeCell, freezeAll, eqCells, callV_T, callV_F, passN, passV, passCell, srcCells, sliceBounds, hiB, loB, thenQ_nA, thenQ_xA, thenQ_rA, runK_nA, runK_xA, runK_rA, wrap_i64, wrap_u64, wrap_u32, wrap_u8, wrap_u16, AV.atom, normA, lkE, fixObjs, fixBody, fixV, fixCell, rI, c3p, ix, w2, hb, hw]
            · have c5' : (0 : Int) < (i : Int) := by omega
              have c5p : 0 < i := by omega
              obtain ⟨j, rfl⟩ : ∃ j, i = j + 1 := ⟨i - 1, by omega⟩
              have hj : j < ms.length := by omega
              have hj' : (j : Int) < ms.length := by omega
              have ixj := idxI ms j hj
              have hgj := gI_get ms j hj
              have wj : IntKind.i64.wrap (((j + 1 : Nat) : Int) - 1) = (j : Int) := by rw [wrap_i64 (by omega) (by have := hms.1; omega)]; omega
              rw [show j + 1 - 1 = j from rfl, hgj] at hbad ⊢
              generalize ms[j] = y at *
              generalize ms[j + 1] = x at *
              obtain ⟨i, hii⟩ : ∃ i, j + 1 = i := ⟨_, rfl⟩
              rw [hii] at ix hi' c5 c5' c5p wj hw hbad ⊢
              by_cases c6 : y < x
              · have c6' : ¬ x ≤ y := by omega
                simp [beqI, bneI, mm_min2, mm_max2, mm_min3, mm_max3, startE, lkE, lkX, lkE_rest, sx, substE, opVA, objs0, List.replicate, XA_seq, XA_region, XOA_go, goE_someA, opV, ev, putA, layAll, XOA_nil, XA_skip_seq, XA_skip_nil, XOA_gd, goG_tA, goG_uA, binV, binInt, unV, XA_ret_nil, XA_ret_cons, endFA_r, endFA_n, endTA_r, endTA_n, endRA_r, endRA_n, fltR, resultsA, resAs, resA, XA_block, XA_cond, pickX_t, pickX_f, pickX_b, XA_skip_blk, XA_skip_lp, XA_exit_seq, XA_exit_lp, XA_exit_blk, XA_exit_nil, load1, Ev.loadCells, objCells, bodyCells, setCells, AV.flat, AV.flat1, backR, backV, backCell, mapO, AV.cells, AV.atom, AV.tree, fillV, repeatL, treeCell, freezeAll, eqCells, callV_T, callV_F, passN, passV, passCell, srcCells, sliceBounds, hiB, loB, thenQ_nA, thenQ_xA, thenQ_rA, runK_nA, runK_xA, runK_rA, wrap_i64, wrap_u64, wrap_u32, wrap_u8, wrap_u16, AV.atom, normA, lkE, fixObjs, fixBody, fixV, fixCell, rI, hi', ix, w2, hb, hw, c5', c5p, wj, hj', hj, ixj, c6, c6']
              · have c6' : x ≤ y := by omega
                have hz := hbad (by simp [c5, c6])
                simp [beqI, bneI, mm_min2, mm_max2, mm_min3, mm_max3, startE, lkE, lkX, lkE_rest, sx, substE, opVA, objs0, List.replicate, XA_seq, XA_region, XOA_go, goE_someA, opV, ev, putA, layAll, XOA_nil, XA_skip_seq, XA_skip_nil, XOA_gd, goG_tA, goG_uA, binV, binInt, unV, XA_ret_nil, XA_ret_cons, endFA_r, endFA_n, endTA_r, endTA_n, endRA_r, endRA_n, fltR, resultsA, resAs, resA, XA_block, XA_cond, pickX_t, pickX_f, pickX_b, XA_skip_blk, XA_skip_lp, XA_exit_seq, XA_exit_lp, XA_exit_blk, XA_exit_nil, load1, Ev.loadCells, objCells, bodyCells, setCells, AV.flat, AV.flat1, backR, backV, backCell, mapO, AV.cells, AV.atom, AV.tree, fillV, repeatL, treeCell, freezeAll, eqCells, callV_T, callV_F, passN, passV, passCell, srcCells, sliceBounds, hiB, loB, thenQ_nA, thenQ_xA, thenQ_rA, runK_nA, runK_xA, runK_rA, wrap_i64, wrap_u64, wrap_u32, wrap_u8, wrap_u16, AV.atom, normA, lkE, fixObjs, fixBody, fixV, fixCell, rI, hi', ix, w2, hb, hw, c5', c5p, wj, hj', hj, ixj, c6', hz]
          · have c4' := (Bool.not_eq_true _).mp c4
            rw [c4'] at hb hbad
            have hz := hbad rfl
            generalize ms[i] = x at *
            simp [beqI, bneI, mm_min2, mm_max2, mm_min3, mm_max3, startE, lkE, lkX, lkE_rest, sx, substE, opVA, objs0, List.replicate, XA_seq, XA_region, XOA_go, goE_someA, opV, ev, putA, layAll, XOA_nil, XA_skip_seq, XA_skip_nil, XOA_gd, goG_tA, goG_uA, binV, binInt, unV, XA_ret_nil, XA_ret_cons, endFA_r, endFA_n, endTA_r, endTA_n, endRA_r, endRA_n, fltR, resultsA, resAs, resA, XA_block, XA_cond, pickX_t, pickX_f, pickX_b, XA_skip_blk, XA_skip_lp, XA_exit_seq, XA_exit_lp, XA_exit_blk, XA_exit_nil, load1, Ev.loadCells, objCells, bodyCells, setCells, AV.flat, AV.flat1, backR, backV, backCell, mapO, AV.cells, AV.atom, AV.tree, fillV, repeatL, treeCell, freezeAll, eqCells, callV_T, callV_F, passN, passV, passCell, srcCells, sliceBounds, hiB, loB, thenQ_nA, thenQ_xA, thenQ_rA, runK_nA, runK_xA, runK_rA, wrap_i64, wrap_u64, wrap_u32, wrap_u8, wrap_u16, AV.atom, normA, lkE, fixObjs, fixBody, fixV, fixCell, rI, hi', ix, w2, hb, hz]
        · intro hJ
          have hz : msG Z ms = true := hJ
          simp [beqI, bneI, mm_min2, mm_max2, mm_min3, mm_max3, startE, lkE, lkX, lkE_rest, sx, substE, opVA, objs0, List.replicate, XA_seq, XA_region, XOA_go, goE_someA, opV, ev, putA, layAll, XOA_nil, XA_skip_seq, XA_skip_nil, XOA_gd, goG_tA, goG_uA, binV, binInt, unV, XA_ret_nil, XA_ret_cons, endFA_r, endFA_n, endTA_r, endTA_n, endRA_r, endRA_n, fltR, resultsA, resAs, resA, XA_block, XA_cond, pickX_t, pickX_f, pickX_b, XA_skip_blk, XA_skip_lp, XA_exit_seq, XA_exit_lp, XA_exit_blk, XA_exit_nil, load1, Ev.loadCells, objCells, bodyCells, setCells, AV.flat, AV.flat1, backR, backV, backCell, mapO, AV.cells, AV.atom, AV.tree, fillV, repeatL, treeCell, freezeAll, eqCells, callV_T, callV_F, passN, passV, passCell, srcCells, sliceBounds, hiB, loB, thenQ_nA, thenQ_xA, thenQ_rA, runK_nA, runK_xA, runK_rA, wrap_i64, wrap_u64, wrap_u32, wrap_u8, wrap_u16, AV.atom, normA, lkE, fixObjs, fixBody, fixV, fixCell, rI, hz]
    · have c2' : ¬ d ≤ (ds.length : Int) - 1 := by omega
      rw [decide_eq_true c1, decide_eq_false c2'] at b1
      simp [beqI, bneI, mm_min2, mm_max2, mm_min3, mm_max3, startE, lkE, lkX, lkE_rest, sx, substE, opVA, objs0, List.replicate, XA_seq, XA_region, XOA_go, goE_someA, opV, ev, putA, layAll, XOA_nil, XA_skip_seq, XA_skip_nil, XOA_gd, goG_tA, goG_uA, binV, binInt, unV, XA_ret_nil, XA_ret_cons, endFA_r, endFA_n, endTA_r, endTA_n, endRA_r, endRA_n, fltR, resultsA, resAs, resA, XA_block, XA_cond, pickX_t, pickX_f, pickX_b, XA_skip_blk, XA_skip_lp, XA_exit_seq, XA_exit_lp, XA_exit_blk, XA_exit_nil, load1, Ev.loadCells, objCells, bodyCells, setCells, AV.flat, AV.flat1, backR, backV, backCell, mapO, AV.cells, AV.atom, AV.tree, fillV, repeatL, treeCell, freezeAll, eqCells, callV_T, callV_F, passN, passV, passCell, srcCells, sliceBounds, hiB, loB, thenQ_nA, thenQ_xA, thenQ_rA, runK_nA, runK_xA, runK_rA, wrap_i64, wrap_u64, wrap_u32, wrap_u8, wrap_u16, fixC, rI, w1, b1, fixG, c2]
  · rw [decide_eq_false c1] at b1
    simp [beqI, bneI, mm_min2, mm_max2, mm_min3, mm_max3, startE, lkE, lkX, lkE_rest, sx, substE, opVA, objs0, List.replicate, XA_seq, XA_region, XOA_go, goE_someA, opV, ev, putA, layAll, XOA_nil, XA_skip_seq, XA_skip_nil, XOA_gd, goG_tA, goG_uA, binV, binInt, unV, XA_ret_nil, XA_ret_cons, endFA_r, endFA_n, endTA_r, endTA_n, endRA_r, endRA_n, fltR, resultsA, resAs, resA, XA_block, XA_cond, pickX_t, pickX_f, pickX_b, XA_skip_blk, XA_skip_lp, XA_exit_seq, XA_exit_lp, XA_exit_blk, XA_exit_nil, load1, Ev.loadCells, objCells, bodyCells, setCells, AV.flat, AV.flat1, backR, backV, backCell, mapO, AV.cells, AV.atom, AV.tree, fillV, repeatL, treeCell, freezeAll, eqCells, callV_T, callV_F, passN, passV, passCell, srcCells, sliceBounds, hiB, loB, thenQ_nA, thenQ_xA, thenQ_rA, runK_nA, runK_xA, runK_rA, wrap_i64, wrap_u64, wrap_u32, wrap_u8, wrap_u16, fixC, rI, w1, b1, fixG, c1]
end Go.Proofs.Ytambpbcdnhekbaa
