import Derived.Test.YtldijlajoaddnaaEvMf
import Derived.Test.YtldijlajoaddnaaRows
import Derived.Test.YtldijlajoaddnaaEvRow
set_option linter.unusedSimpArgs false
set_option linter.unusedVariables false
namespace Go.Proofs.Ytldijlajoaddnaa
open Go.Ev
def tab : Tab := ⟨fnTab, fun _ _ _ => none⟩
theorem tab_ok : TabOk Try.prog tab := ⟨fnTab_ok, fun f args H r H1 h => by cases h⟩
/-- Four numbers. -/
structure Q4 where
  x : Int
  y : Int
  z : Int
  t : Int
def meet (a b : Q4) : Q4 := ⟨if b.x < a.x then b.x else a.x, if b.y < a.y then b.y else a.y, if b.z < a.z then b.z else a.z, if b.t < a.t then b.t else a.t⟩
def join (a b : Q4) : Q4 := ⟨if b.x > a.x then b.x else a.x, if b.y > a.y then b.y else a.y, if b.z > a.z then b.z else a.z, if b.t > a.t then b.t else a.t⟩
def below (a b : Q4) : Bool := decide (a.x ≤ b.x ∧ a.y ≤ b.y ∧ a.z ≤ b.z ∧ a.t ≤ b.t)
def rank (a : Q4) : Int := a.x + a.y + a.z + a.t
def byte4 (a : Q4) : Prop := (0 ≤ a.x ∧ a.x ≤ 255) ∧ (0 ≤ a.y ∧ a.y ≤ 255) ∧ (0 ≤ a.z ∧ a.z ≤ 255) ∧ (0 ≤ a.t ∧ a.t ≤ 255)
theorem meet_ev (a b : Q4) : cvF tab 16 [.agg [.int .u8 a.x, .int .u8 a.y, .int .u8 a.z, .int .u8 a.t], .agg [.int .u8 b.x, .int .u8 b.y, .int .u8 b.z, .int .u8 b.t]]
    = some (.agg [.int .u8 (meet a b).x, .int .u8 (meet a b).y, .int .u8 (meet a b).z, .int .u8 (meet a b).t]) := by
  refine cvF_R (mf := Mf.f16) rfl rfl ?_
  simp [meet, Mf.f16, slots, objs0, List.replicate, X_seq, X_region, XO_go, goE_some, opV, ev, putV, layAll, XO_nil, X_skip_seq, X_skip_nil, XO_gd, goG_t, goG_u, binV, binInt, unV, X_ret_nil, X_ret_cons, endF_r, endF_n, endT_r, endT_n, fltR, Ev.results, resVs, resV, X_block, X_cond, pickX_t, pickX_f, pickX_b, X_skip_blk, X_skip_lp, X_exit_seq, X_exit_lp, X_exit_blk, X_exit_nil, load1, Ev.loadCells, objCells, bodyCells, mmV, foldMM, setCells, AV.flat, AV.flat1, backR, backV, backCell, mapO, AV.cells, AV.atom, AV.tree, fillV, repeatL, treeCell, freezeAll, eqCells, callV_T, callV_F, passV, passCell, srcCells, sliceBounds, hiB, loB, wrap_i64, wrap_u64, wrap_u32, wrap_u8, wrap_u16, X_round, norm, fixObjs, fixBody, fixSlots, fixV, fixCell, goN_some]
theorem join_ev (a b : Q4) : cvF tab 17 [.agg [.int .u8 a.x, .int .u8 a.y, .int .u8 a.z, .int .u8 a.t], .agg [.int .u8 b.x, .int .u8 b.y, .int .u8 b.z, .int .u8 b.t]]
    = some (.agg [.int .u8 (join a b).x, .int .u8 (join a b).y, .int .u8 (join a b).z, .int .u8 (join a b).t]) := by
  refine cvF_R (mf := Mf.f17) rfl rfl ?_
  simp [join, Mf.f17, slots, objs0, List.replicate, X_seq, X_region, XO_go, goE_some, opV, ev, putV, layAll, XO_nil, X_skip_seq, X_skip_nil, XO_gd, goG_t, goG_u, binV, binInt, unV, X_ret_nil, X_ret_cons, endF_r, endF_n, endT_r, endT_n, fltR, Ev.results, resVs, resV, X_block, X_cond, pickX_t, pickX_f, pickX_b, X_skip_blk, X_skip_lp, X_exit_seq, X_exit_lp, X_exit_blk, X_exit_nil, load1, Ev.loadCells, objCells, bodyCells, mmV, foldMM, setCells, AV.flat, AV.flat1, backR, backV, backCell, mapO, AV.cells, AV.atom, AV.tree, fillV, repeatL, treeCell, freezeAll, eqCells, callV_T, callV_F, passV, passCell, srcCells, sliceBounds, hiB, loB, wrap_i64, wrap_u64, wrap_u32, wrap_u8, wrap_u16, X_round, norm, fixObjs, fixBody, fixSlots, fixV, fixCell, goN_some]
theorem meet_is (a b : Q4) : ((meet a b).x == a.x && ((meet a b).y == a.y && ((meet a b).z == a.z && (meet a b).t == a.t))) = below a b := by
  simp only [meet, below]
  rw [Bool.eq_iff_iff]
  simp only [Bool.and_eq_true, beq_iff_eq, decide_eq_true_eq]
  constructor
  · rintro ⟨h1, h2, h3, h4⟩
    refine ⟨?_, ?_, ?_, ?_⟩ <;> split at * <;> omega
  · rintro ⟨h1, h2, h3, h4⟩
    refine ⟨?_, ?_, ?_, ?_⟩ <;> split <;> omega
theorem below_ev (a b : Q4) : cvF tab 12 [.agg [.int .u8 a.x, .int .u8 a.y, .int .u8 a.z, .int .u8 a.t], .agg [.int .u8 b.x, .int .u8 b.y, .int .u8 b.z, .int .u8 b.t]]
    = some (.bool (below a b)) := by
  refine cvF_R (mf := Mf.f12) rfl rfl ?_
  simp [Mf.f12, slots, objs0, List.replicate, X_seq, X_region, XO_go, goE_some, opV, ev, putV, layAll, XO_nil, X_skip_seq, X_skip_nil, XO_gd, goG_t, goG_u, binV, binInt, unV, X_ret_nil, X_ret_cons, endF_r, endF_n, endT_r, endT_n, fltR, Ev.results, resVs, resV, X_block, X_cond, pickX_t, pickX_f, pickX_b, X_skip_blk, X_skip_lp, X_exit_seq, X_exit_lp, X_exit_blk, X_exit_nil, load1, Ev.loadCells, objCells, bodyCells, mmV, foldMM, setCells, AV.flat, AV.flat1, backR, backV, backCell, mapO, AV.cells, AV.atom, AV.tree, fillV, repeatL, treeCell, freezeAll, eqCells, callV_T, callV_F, passV, passCell, srcCells, sliceBounds, hiB, loB, wrap_i64, wrap_u64, wrap_u32, wrap_u8, wrap_u16, X_round, norm, fixObjs, fixBody, fixSlots, fixV, fixCell, goN_some, meet_ev, meet_is]
theorem rank_ev (a : Q4) (h : byte4 a) : cvF tab 18 [.agg [.int .u8 a.x, .int .u8 a.y, .int .u8 a.z, .int .u8 a.t]] = some (.int .i64 (rank a)) := by
  refine cvF_R (mf := Mf.f18) rfl rfl ?_
  obtain ⟨h1, h2, h3, h4⟩ := h
  have e1 : IntKind.i64.wrap a.x = a.x := wrap_i64 (by omega) (by omega)
  have e2 : IntKind.i64.wrap a.y = a.y := wrap_i64 (by omega) (by omega)
  have e3 : IntKind.i64.wrap a.z = a.z := wrap_i64 (by omega) (by omega)
  have e4 : IntKind.i64.wrap a.t = a.t := wrap_i64 (by omega) (by omega)
  have e5 : IntKind.i64.wrap (a.x + a.y) = a.x + a.y := wrap_i64 (by omega) (by omega)
  have e6 : IntKind.i64.wrap (a.x + a.y + a.z) = a.x + a.y + a.z := wrap_i64 (by omega) (by omega)
  have e7 : IntKind.i64.wrap (a.x + a.y + a.z + a.t) = a.x + a.y + a.z + a.t := wrap_i64 (by omega) (by omega)
  simp [Mf.f18, slots, objs0, List.replicate, X_seq, X_region, XO_go, goE_some, opV, ev, putV, layAll, XO_nil, X_skip_seq, X_skip_nil, XO_gd, goG_t, goG_u, binV, binInt, unV, X_ret_nil, X_ret_cons, endF_r, endF_n, endT_r, endT_n, fltR, Ev.results, resVs, resV, X_block, X_cond, pickX_t, pickX_f, pickX_b, X_skip_blk, X_skip_lp, X_exit_seq, X_exit_lp, X_exit_blk, X_exit_nil, load1, Ev.loadCells, objCells, bodyCells, mmV, foldMM, setCells, AV.flat, AV.flat1, backR, backV, backCell, mapO, AV.cells, AV.atom, AV.tree, fillV, repeatL, treeCell, freezeAll, eqCells, callV_T, callV_F, passV, passCell, srcCells, sliceBounds, hiB, loB, wrap_i64, wrap_u64, wrap_u32, wrap_u8, wrap_u16, X_round, norm, fixObjs, fixBody, fixSlots, fixV, fixCell, goN_some, rank, e1, e2, e3, e4, e5, e6, e7]
theorem wakes_ev : cvF tab 9 [] = some (.bool true) := by
  have h : (evalFun tab 100 9 [] []).map (fun p => match p.1 with | .bool b => b | _ => false) = some true := by kernel_rfl
  obtain ⟨⟨r, H1⟩, h1, h2⟩ := Option.map_eq_some_iff.1 h
  have h3 := cfT_of h1
  unfold cvF
  rw [h3]
  cases r <;> simp at h2
  subst h2
  rfl
theorem meet_comm (a b : Q4) : meet b a = meet a b := by
  simp only [meet, Q4.mk.injEq]
  refine ⟨?_, ?_, ?_, ?_⟩ <;> split <;> split <;> omega
theorem join_comm (a b : Q4) : join b a = join a b := by
  simp only [join, Q4.mk.injEq]
  refine ⟨?_, ?_, ?_, ?_⟩ <;> split <;> split <;> omega
theorem join_is (a b : Q4) : ((join a b).x == a.x && ((join a b).y == a.y && ((join a b).z == a.z && (join a b).t == a.t))) = below b a := by
  simp only [join, below]
  rw [Bool.eq_iff_iff]
  simp only [Bool.and_eq_true, beq_iff_eq, decide_eq_true_eq]
  constructor
  · rintro ⟨h1, h2, h3, h4⟩
    refine ⟨?_, ?_, ?_, ?_⟩ <;> split at * <;> omega
  · rintro ⟨h1, h2, h3, h4⟩
    refine ⟨?_, ?_, ?_, ?_⟩ <;> split <;> omega
theorem below_iff (a b : Q4) : below a b = true ↔ (a.x ≤ b.x ∧ a.y ≤ b.y ∧ a.z ≤ b.z ∧ a.t ≤ b.t) := by
  unfold below
  exact decide_eq_true_iff
theorem below_meet (a b c : Q4) : below c (meet a b) = (below c a && below c b) := by
  rw [Bool.eq_iff_iff]
  simp only [Bool.and_eq_true, below_iff, meet]
  constructor
  · rintro ⟨h1, h2, h3, h4⟩
    refine ⟨⟨?_, ?_, ?_, ?_⟩, ?_, ?_, ?_, ?_⟩ <;> split at * <;> omega
  · rintro ⟨⟨h1, h2, h3, h4⟩, h5, h6, h7, h8⟩
    refine ⟨?_, ?_, ?_, ?_⟩ <;> split <;> omega
theorem below_join (a b c : Q4) : below (join a b) c = (below a c && below b c) := by
  rw [Bool.eq_iff_iff]
  simp only [Bool.and_eq_true, below_iff, join]
  constructor
  · rintro ⟨h1, h2, h3, h4⟩
    refine ⟨⟨?_, ?_, ?_, ?_⟩, ?_, ?_, ?_, ?_⟩ <;> split at * <;> omega
  · rintro ⟨⟨h1, h2, h3, h4⟩, h5, h6, h7, h8⟩
    refine ⟨?_, ?_, ?_, ?_⟩ <;> split <;> omega
theorem rank_sum (a b : Q4) : rank (meet a b) + rank (join a b) = rank a + rank b := by
  simp only [rank, meet, join]
  have h : ∀ p q : Int, (if q < p then q else p) + (if q > p then q else p) = p + q := by intro p q; split <;> split <;> omega
  have h1 := h a.x b.x
  have h2 := h a.y b.y
  have h3 := h a.z b.z
  have h4 := h a.t b.t
  omega
theorem byte4_meet {a b : Q4} (ha : byte4 a) (hb : byte4 b) : byte4 (meet a b) := by
  simp only [byte4, meet] at *
  refine ⟨?_, ?_, ?_, ?_⟩ <;> split <;> omega
theorem byte4_join {a b : Q4} (ha : byte4 a) (hb : byte4 b) : byte4 (join a b) := by
  simp only [byte4, join] at *
  refine ⟨?_, ?_, ?_, ?_⟩ <;> split <;> omega
set_option maxRecDepth 100000 in
set_option maxHeartbeats 4000000 in
theorem meets_ev (a b c : Q4) (ha : byte4 a) (hb : byte4 b) : cvF tab 4 [.agg [.int .u8 a.x, .int .u8 a.y, .int .u8 a.z, .int .u8 a.t], .agg [.int .u8 b.x, .int .u8 b.y, .int .u8 b.z, .int .u8 b.t],
    .agg [.int .u8 c.x, .int .u8 c.y, .int .u8 c.z, .int .u8 c.t]] = some (.bool true) := by
  refine cvF_R (mf := Mf.f4) rfl rfl ?_
  have w1 := wakes_ev
  have m1 := byte4_meet ha hb
  have m2 := byte4_join ha hb
  cases h1 : below c a <;> cases h2 : below a c <;>
  simp [Mf.f4, slots, objs0, List.replicate, X_seq, X_region, XO_go, goE_some, opV, ev, putV, layAll, XO_nil, X_skip_seq, X_skip_nil, XO_gd, goG_t, goG_u, binV, binInt, unV, X_ret_nil, X_ret_cons, endF_r, endF_n, endT_r, endT_n, fltR, Ev.results, resVs, resV, X_block, X_cond, pickX_t, pickX_f, pickX_b, X_skip_blk, X_skip_lp, X_exit_seq, X_exit_lp, X_exit_blk, X_exit_nil, load1, Ev.loadCells, objCells, bodyCells, mmV, foldMM, setCells, AV.flat, AV.flat1, backR, backV, backCell, mapO, AV.cells, AV.atom, AV.tree, fillV, repeatL, treeCell, freezeAll, eqCells, callV_T, callV_F, passV, passCell, srcCells, sliceBounds, hiB, loB, wrap_i64, wrap_u64, wrap_u32, wrap_u8, wrap_u16, X_round, norm, fixObjs, fixBody, fixSlots, fixV, fixCell, goN_some, meet_ev, join_ev, below_ev, rank_ev, wakes_ev, meet_comm a b, join_comm a b, meet_is, join_is, below_meet, below_join, rank_sum, m1, m2, ha, hb, h1, h2]
theorem rd_q4 {a : AV} (h : RDarg (.arr 4 (.int .u8)) a) : ∃ q : Q4, byte4 q ∧ a = .agg [.int .u8 q.x, .int .u8 q.y, .int .u8 q.z, .int .u8 q.t] := by
  simp only [RDarg, isAggG, if_true] at h
  obtain ⟨cs, rfl, L, hL, rfl, hx⟩ := h
  match L, hL, hx with
  | [l1, l2, l3, l4], _, hx =>
    obtain ⟨a, rfl, ha⟩ := hx l1 (by simp)
    obtain ⟨b, rfl, hb⟩ := hx l2 (by simp)
    obtain ⟨c, rfl, hc⟩ := hx l3 (by simp)
    obtain ⟨d, rfl, hd⟩ := hx l4 (by simp)
    simp only [IntKind.min, IntKind.max, IntKind.signed, IntKind.bits] at ha hb hc hd
    exact ⟨⟨a, b, c, d⟩, ⟨by simpa using ha, by simpa using hb, by simpa using hc, by simpa using hd⟩, rfl⟩

theorem Try.own : ownKnob Try.prog.godebug = none := by kernel_rfl
theorem Try.laidOut : laidOutB Try.prog = true := by kernel_rfl

set_option maxRecDepth 100000 in
theorem latticeMeets_lifted (os : Os) (started : os.Started) (H : Type) (enc : TypeId × Value → H) :
    ReturnsInHanded {} Try.checked os 4 .any (Rows.latticeMeetsSpec.pre6 enc Try.prog Try.f4 Rows.latticeMeetsRow.domain false) (Rows.latticeMeetsSpec.post enc Try.prog Try.f4 false true false false) := by
  refine returnsInHanded_of_change (C := Try.checked) Try.own started (by kernel_rfl) Try.func4
    (ChangeSpec.witness6 (enc := enc) (C := Try.checked) false ⟨#[], #[.agg #[.int .u8 0, .int .u8 0, .int .u8 0, .int .u8 0], .agg #[.int .u8 0, .int .u8 0, .int .u8 0, .int .u8 0], .agg #[.int .u8 0, .int .u8 0, .int .u8 0, .int .u8 0]], []⟩ 8 (by kernel_rfl) (by kernel_rfl) (by kernel_rfl) (by kernel_rfl)) ?_
  intro W base args ds gs before hval hW hcnd _
  have hval' : ∀ (j : Nat) (t : TypeId) (v : Value), Try.f4.params.toList[j]? = some t → args[j]? = some v → Value.okWide Try.prog W .any base t v := fun j t v h1 h2 => hval j t v (by simpa using h1) h2
  obtain ⟨p, q, hA, hV, hpq, _, _⟩ := id hW
  have hg : gtsB Try.prog [.arr 4 (.int .u8), .arr 4 (.int .u8), .arr 4 (.int .u8)] Try.f4.params.toList = true := by kernel_rfl
  refine (law_calls' tab_ok hg ?_ hval' hA).mono fun e W' ⟨he, hb⟩ => ?_
  · intro l h
    obtain ⟨a, r, rfl, ha, h⟩ := h
    obtain ⟨b, r, rfl, hb, h⟩ := h
    obtain ⟨c, r, rfl, hc, h⟩ := h
    simp only [RDargs] at h
    subst h
    obtain ⟨a, ha4, rfl⟩ := rd_q4 ha
    obtain ⟨b, hb4, rfl⟩ := rd_q4 hb
    obtain ⟨c, hc, rfl⟩ := rd_q4 hc
    exact cvF_bool (meets_ev a b c ha4 hb4)
  · subst he
    refine ⟨_, rfl, post_true Try.laidOut (rt := 4) (fun ds h => ?_) rfl (by kernel_rfl) (by kernel_rfl) (by kernel_rfl) hW hb⟩
    match ds, h with
    | [_, _, _], _ => rfl

theorem latticeMeets_holds : Rows.LatticeMeetsSaid :=
  OpenClaim.holds_of_wide 4 Try.f4 rfl rfl rfl rfl rfl rfl rfl ⟨rfl, rfl, rfl, rfl, rfl⟩ rfl rfl rfl rfl rfl (by kernel_rfl) Try.func4 (by kernel_rfl)
    (of_decide_eq_true (by kernel_rfl)) (by unfold Func.isWrapper; first | (rw [if_pos (by decide +kernel)]; kernel_rfl) | (rw [if_neg (by decide +kernel)]; exact ⟨rfl, rfl⟩))
    (fun os started H enc _ => latticeMeets_lifted os started H enc)
end Go.Proofs.Ytldijlajoaddnaa
