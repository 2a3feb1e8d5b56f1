/- A catalog that may be is read as it was written; a byte more, or fewer, is none; unlike ones are written unlike. -/
import Derived.Test.YtfodjphcngidbaaSchT
import Derived.Test.YtfodjphcngidbaaSchCom
set_option linter.unusedSimpArgs false
set_option linter.unusedVariables false
set_option maxHeartbeats 4000000
set_option maxRecDepth 100000
namespace Go.Proofs.Ytfodjphcngidbaa
open Go.Ev
def u8s (l : List Int) : List UInt8 := l.map fun n => UInt8.ofNat n.toNat
theorem u8s_eq {a b : List Int} (ha : okB a) (hb : okB b) : (u8s a == u8s b) = decide (a = b) := by
  have key : ∀ (a b : List Int), okB a → okB b → u8s a = u8s b → a = b := by
    intro a
    induction a with
    | nil => intro b _ _ h; cases b with
      | nil => rfl
      | cons x b => simp [u8s] at h
    | cons y a ih =>
      intro b ha hb h
      cases b with
      | nil => simp [u8s] at h
      | cons x b =>
        simp only [u8s, List.map_cons, List.cons.injEq] at h
        have hy := ha y (by simp)
        have hx := hb x (by simp)
        unfold byte at hx hy
        have h1 := congrArg UInt8.toNat h.1
        simp only [UInt8.toNat_ofNat'] at h1
        have : y = x := by omega
        rw [this, ih b (fun z hz => ha z (by simp [hz])) (fun z hz => hb z (by simp [hz])) h.2]
  by_cases h : a = b
  · subst h; simp
  · simp only [h, decide_false, beq_eq_false_iff_ne]
    exact fun c => h (key a b ha hb c)
theorem putL_ok (l : List Int) : okB (putL l) := by
  intro x hx
  unfold putL at hx
  obtain ⟨n, _, h⟩ := List.mem_flatMap.1 hx
  exact digN_ok _ x h
theorem bytesG_ok (ds : List Dm) (m : Int) : okB (bytesG ds m) := by
  intro x hx
  unfold bytesG headB dimB at hx
  simp only [List.mem_append, List.mem_flatMap] at hx
  rcases hx with (h | h) | ⟨d, _, h | h | ⟨l, _, h⟩⟩
  · exact digN_ok _ x h
  · exact digN_ok _ x h
  · exact digN_ok _ x h
  · exact putL_ok _ x h
  · exact putL_ok _ x h
theorem bytesC_ok (ds : List Dm) (m : Int) : okB (bytesC ds m) := by
  unfold bytesC
  split
  · exact bytesG_ok ds m
  · intro x hx; cases hx
theorem bytesG_len {ds : List Dm} {m : Int} (g : goodC ds m = true) : 0 < (bytesG ds m).length ∧ (bytesG ds m).length ≤ 6000 := by
  have h1 := headB_len g
  have h2 := take_len g ds.length
  rw [List.take_length] at h2
  have h3 := digN_pos m.toNat
  unfold bytesG headB at *
  simp only [List.length_append] at *
  omega
/-- Two readings of one text are one. -/
theorem bytesG_pre {ds ds2 : List Dm} {m m2 : Int} {r r2 : List Int} (g : goodC ds m = true) (g2 : goodC ds2 m2 = true) (h : bytesG ds m ++ r = bytesG ds2 m2 ++ r2) : m = m2 ∧ ds = ds2 ∧ r = r2 := by
  have h1 := cat_full numS_P (st := stS) rfl g r
  have h2 := cat_full numS_P (st := stS) rfl g2 r2
  rw [h, h2] at h1
  simp at h1
  exact ⟨h1.1.symm, h1.2.1.symm, h1.2.2.symm⟩
theorem read_self {ds : List Dm} {m : Int} (g : goodC ds m = true) : readG numS stS (bytesG ds m) = some (m, ds) :=
  (readG_iff numS_P rfl (bytesG_ok ds m) m ds).2 ⟨g, rfl⟩
theorem read_more {ds : List Dm} {m : Int} (g : goodC ds m = true) {r : List Int} (hr : okB r) (h0 : r ≠ []) : readG numS stS (bytesG ds m ++ r) = none := by
  cases e : readG numS stS (bytesG ds m ++ r) with
  | none => rfl
  | some p =>
    obtain ⟨m2, ds2⟩ := p
    obtain ⟨g2, h⟩ := (readG_iff numS_P (st := stS) rfl (fun x hx => (List.mem_append.1 hx).elim (bytesG_ok ds m x) (hr x)) m2 ds2).1 e
    rw [← List.append_nil (bytesG ds2 m2)] at h
    exact absurd (bytesG_pre g g2 h).2.2 h0
theorem read_less {ds : List Dm} {m : Int} (g : goodC ds m = true) {b r : List Int} (hb : bytesG ds m = b ++ r) (h0 : r ≠ []) : readG numS stS b = none := by
  cases e : readG numS stS b with
  | none => rfl
  | some p =>
    obtain ⟨m2, ds2⟩ := p
    have hok : okB b := fun x hx => bytesG_ok ds m x (by rw [hb]; simp [hx])
    obtain ⟨g2, h⟩ := (readG_iff numS_P (st := stS) rfl hok m2 ds2).1 e
    rw [h, ← List.append_nil (bytesG ds m)] at hb
    exact absurd (bytesG_pre g g2 hb).2.2.symm h0
theorem bytes_same {ds ds2 : List Dm} {m m2 : Int} (g : goodC ds m = true) : decide (bytesC ds2 m2 = bytesG ds m) = sameC ds m ds2 m2 := by
  unfold sameC
  refine decide_eq_decide.2 ⟨fun h => ?_, ?_⟩
  · cases g2 : goodC ds2 m2 with
    | false =>
      unfold bytesC at h
      rw [g2] at h
      have := (bytesG_len g).1
      rw [← h] at this
      simp at this
    | true =>
      unfold bytesC at h
      rw [if_pos g2, ← List.append_nil (bytesG ds2 m2), ← List.append_nil (bytesG ds m)] at h
      have := bytesG_pre g2 g h
      exact ⟨this.1.symm, this.2.1.symm⟩
  · rintro ⟨rfl, rfl⟩
    unfold bytesC
    rw [if_pos g]
theorem schemaBack_ev (ds ds2 : List Dm) (m m2 by_ : Int) (hC : okC ds) (hC2 : okC ds2) (hy : byte by_) :
    cvF tab 5 [.agg [.ro ds.length (flatD ds), .int .i64 m], .agg [.ro ds2.length (flatD ds2), .int .i64 m2], .int .u8 by_] = some (.bool true) := by
  refine cvFA_R (mf := Mf.f5) rfl rfl (by kernel_rfl) ?_
  simp only [Mf.f5]
  have e1 := lightCat_ev ds2 m2
  have e2 := rgood_ev ds m hC
  cases gl : lightC ds2 with
  | false =>
    rw [gl] at e1
    simp [beqI, bneI, mm_min2, mm_max2, mm_min3, mm_max3, startE, lkE, lkX, lkE_rest, sx, substE, opVA, objs0, List.replicate, XA_seq, XA_region, XOA_go, goE_someA, opV, ev, putA, layAll, XOA_nil, XA_skip_seq, XA_skip_nil, XOA_gd, goG_tA, goG_uA, binV, bi_add, bi_sub, bi_mul, bi_quo, bi_rem, bi_eql, bi_neq, bi_lss, bi_leq, bi_gtr, bi_geq, bi_shl, bi_shr, bi_and, bi_or, bi_xor, unV, XA_ret_nil, XA_ret_cons, endFA_r, endFA_n, endTA_r, endTA_n, endRA_r, endRA_n, fltR, resultsA, resAs, resA, XA_block, XA_cond, pickX_t, pickX_f, pickX_b, XA_skip_blk, XA_skip_lp, XA_exit_seq, XA_exit_lp, XA_exit_blk, XA_exit_nil, load1, Ev.loadCells, objCells, bodyCells, setCells, AV.flat, AV.flat1, backR, backV, backCell, mapO, AV.cells, AV.atom, AV.tree, fillV, repeatL, treeCell, freezeAll, eqCells, callV_T, callV_F, passV, passCell, srcCells, sliceBounds, hiB, loB, thenQ_nA, thenQ_xA, thenQ_rA, runK_nA, runK_xA, runK_rA, wrap_i64, wrap_u64, wrap_u32, wrap_u8, wrap_u16, e1, wakes_ev]
  | true =>
    rw [gl] at e1
    cases g : goodC ds m with
    | false =>
      rw [g] at e2
      simp [beqI, bneI, mm_min2, mm_max2, mm_min3, mm_max3, startE, lkE, lkX, lkE_rest, sx, substE, opVA, objs0, List.replicate, XA_seq, XA_region, XOA_go, goE_someA, opV, ev, putA, layAll, XOA_nil, XA_skip_seq, XA_skip_nil, XOA_gd, goG_tA, goG_uA, binV, bi_add, bi_sub, bi_mul, bi_quo, bi_rem, bi_eql, bi_neq, bi_lss, bi_leq, bi_gtr, bi_geq, bi_shl, bi_shr, bi_and, bi_or, bi_xor, unV, XA_ret_nil, XA_ret_cons, endFA_r, endFA_n, endTA_r, endTA_n, endRA_r, endRA_n, fltR, resultsA, resAs, resA, XA_block, XA_cond, pickX_t, pickX_f, pickX_b, XA_skip_blk, XA_skip_lp, XA_exit_seq, XA_exit_lp, XA_exit_blk, XA_exit_nil, load1, Ev.loadCells, objCells, bodyCells, setCells, AV.flat, AV.flat1, backR, backV, backCell, mapO, AV.cells, AV.atom, AV.tree, fillV, repeatL, treeCell, freezeAll, eqCells, callV_T, callV_F, passV, passCell, srcCells, sliceBounds, hiB, loB, thenQ_nA, thenQ_xA, thenQ_rA, runK_nA, runK_xA, runK_rA, wrap_i64, wrap_u64, wrap_u32, wrap_u8, wrap_u16, e1, e2, wakes_ev]
    | true =>
      rw [g] at e2
      have e3 := Bytes_ev ds m hC
      have hB : bytesC ds m = bytesG ds m := by unfold bytesC; rw [if_pos g]
      rw [hB] at e3
      have hl := bytesG_len g
      have hok := bytesG_ok ds m
      have e4 := Read_ev (bytesG ds m) ⟨hok, by simp only; omega⟩
      rw [read_self g] at e4
      have hyb : okB [by_] := fun x hx => by simp at hx; rw [hx]; exact hy
      have e5 := Read_ev (bytesG ds m ++ [by_]) ⟨fun x hx => (List.mem_append.1 hx).elim (hok x) (hyb x), by simp only [List.length_append, List.length_cons, List.length_nil]; omega⟩
      rw [read_more g hyb (by simp)] at e5
      have hk : (bytesG ds m).take ((bytesG ds m).length - 1) ++ (bytesG ds m).drop ((bytesG ds m).length - 1) = bytesG ds m := List.take_append_drop ..
      have e6 := Read_ev ((bytesG ds m).take ((bytesG ds m).length - 1)) ⟨fun x hx => hok x (List.mem_of_mem_take hx), by simp only [List.length_take]; omega⟩
      rw [read_less g hk.symm (by intro h; have := congrArg List.length h; simp at this; omega)] at e6
      have e7 := Same_ev ds ds m m hC
      rw [show sameC ds m ds m = true from by simp [sameC]] at e7
      have e8 := Same_ev ds ds2 m m2 hC
      have e9 := Bytes_ev ds2 m2 hC2
      have hs := u8s_eq (bytesC_ok ds2 m2) hok
      rw [bytes_same g] at hs
      have b1 := bytesOf_map (bytesC ds2 m2)
      have b2 := bytesOf_map (bytesG ds m)
      rw [show ((bytesC ds2 m2).map fun n => UInt8.ofNat n.toNat) = u8s (bytesC ds2 m2) from rfl] at b1
      rw [show ((bytesG ds m).map fun n => UInt8.ofNat n.toNat) = u8s (bytesG ds m) from rfl] at b2
      clear hk hyb
      generalize bytesG ds m = B at *
      generalize bytesC ds2 m2 = B2 at *
      generalize sameC ds m ds2 m2 = S at *
      obtain ⟨k, hk⟩ : ∃ k, B.length = k + 1 := ⟨B.length - 1, by omega⟩
      rw [hk] at e6
      have hlt : (B.take (k + 1 - 1)).length = k := by rw [List.length_take]; omega
      simp only [rB, hlt] at e3 e4 e5 e6 e9
      simp only [List.length_append, List.map_append, List.map_take, List.map_cons, List.map_nil, List.length_cons, List.length_nil, hk, catV] at e3 e4 e5 e6
      have hml : (B.map (AV.int .u8)).length = k + 1 := by rw [List.length_map, hk]
      generalize hM : B.map (AV.int .u8) = M at *
      have w1 : IntKind.i64.wrap (((k + 1 : Nat) : Int) - 1) = (k : Int) := by rw [wrap_i64 (by omega) (by omega)]; omega
      have q1 : ¬ ((k + 1 : Nat) : Int) = 0 := by omega
      have q2 : k + 1 ≤ 140737488355328 := by omega
      have q3 : k + 1 < 4611686018427387904 := by omega
      have q4 : k + 1 + 1 ≤ 140737488355328 := by omega
      have q5 : k + 1 + 1 < 4611686018427387904 := by omega
      have q6 : (k : Int) ≤ ((k + 1 : Nat) : Int) := by omega
      have q7 : List.take (k + 1 + 1) (M ++ [AV.int .u8 by_]) = M ++ [AV.int .u8 by_] := List.take_of_length_le (by simp; omega)
      have q8 : M.all AV.tree = true := by rw [← hM]; simp [AV.tree]
      simp at e6 w1 q1 q6
      simp [beqI, bneI, mm_min2, mm_max2, mm_min3, mm_max3, startE, lkE, lkX, lkE_rest, sx, substE, opVA, objs0, List.replicate, XA_seq, XA_region, XOA_go, goE_someA, opV, ev, putA, layAll, XOA_nil, XA_skip_seq, XA_skip_nil, XOA_gd, goG_tA, goG_uA, binV, bi_add, bi_sub, bi_mul, bi_quo, bi_rem, bi_eql, bi_neq, bi_lss, bi_leq, bi_gtr, bi_geq, bi_shl, bi_shr, bi_and, bi_or, bi_xor, unV, XA_ret_nil, XA_ret_cons, endFA_r, endFA_n, endTA_r, endTA_n, endRA_r, endRA_n, fltR, resultsA, resAs, resA, XA_block, XA_cond, pickX_t, pickX_f, pickX_b, XA_skip_blk, XA_skip_lp, XA_exit_seq, XA_exit_lp, XA_exit_blk, XA_exit_nil, load1, Ev.loadCells, objCells, bodyCells, setCells, AV.flat, AV.flat1, backR, backV, backCell, mapO, AV.cells, AV.atom, AV.tree, fillV, repeatL, treeCell, freezeAll, eqCells, callV_T, callV_F, passV, passCell, srcCells, sliceBounds, hiB, loB, thenQ_nA, thenQ_xA, thenQ_rA, runK_nA, runK_xA, runK_rA, wrap_i64, wrap_u64, wrap_u32, wrap_u8, wrap_u16, e1, e2, e3, e4, e5, e6, e7, e8, e9, wakes_ev, w1, q1, q2, q3, q4, q5, q6, q7, q8, hml, b1, b2, hs]
theorem schemaBack_law (l : List AV) (h : RDargs [gCat, gCat, .int .u8] l) : ∃ H1, cfT tab 5 l [] = some (.bool true, H1) := by
  obtain ⟨x, r, rfl, hx, y, r, rfl, hy, t, r, rfl, ht, rfl⟩ := h
  obtain ⟨ds, m, rfl, hC, hm⟩ := rdarg_cat hx
  obtain ⟨ds2, m2, rfl, hC2, hm2⟩ := rdarg_cat hy
  obtain ⟨n, rfl, hn⟩ := rdarg_u8 ht
  exact cvF_bool (schemaBack_ev ds ds2 m m2 n hC hC2 hn)
theorem schemaBack_lifted (os : Os) (started : os.Started) (H : Type) (enc : TypeId × Value → H) :
    ReturnsInHanded {} Try.checked os 5 .any (Rows.schemaBackSpec.pre6 enc Try.prog Try.f5 Rows.schemaBackRow.domain false) (Rows.schemaBackSpec.post enc Try.prog Try.f5 false true false false) := by
  refine returnsInHanded_of_change (C := Try.checked) Try.own started (by kernel_rfl) Try.func5
    (ChangeSpec.witness6 (enc := enc) (C := Try.checked) false ⟨#[], #[.agg #[.slice none 0 0, .int .i64 0], .agg #[.slice none 0 0, .int .i64 0], .int .u8 0], []⟩ 8 (by kernel_rfl) (by kernel_rfl) (by kernel_rfl) (by kernel_rfl)) ?_
  intro W base args ds gs before hval hW hcnd _
  have hval' : ∀ (j : Nat) (t : TypeId) (v : Value), Try.f5.params.toList[j]? = some t → args[j]? = some v → Value.okWide Try.prog W .any base t v := fun j t v h1 h2 => hval j t v (by simpa using h1) h2
  obtain ⟨p, q, hA, hV, hpq, _, _⟩ := id hW
  have hg : gtsB Try.prog [gCat, gCat, .int .u8] Try.f5.params.toList = true := by kernel_rfl
  refine (law_calls' tab_ok hg schemaBack_law hval' hA).mono fun e W' ⟨he, hb⟩ => ?_
  subst he
  refine ⟨_, rfl, post_true Try.laidOut (rt := 4) (fun ds h => ?_) rfl (by kernel_rfl) (by kernel_rfl) (by kernel_rfl) hW hb⟩
  match ds, h with
  | [_, _, _], _ => rfl
theorem schemaBack_holds : Rows.SchemaBackSaid :=
  OpenClaim.holds_of_wide 5 Try.f5 rfl rfl rfl rfl rfl rfl rfl ⟨rfl, rfl, rfl, rfl, rfl⟩ rfl rfl rfl rfl rfl (by kernel_rfl) Try.func5 (by kernel_rfl)
    (of_decide_eq_true (by kernel_rfl)) (by unfold Func.isWrapper; first | (rw [if_pos (by decide +kernel)]; kernel_rfl) | (rw [if_neg (by decide +kernel)]; exact ⟨rfl, rfl⟩))
    (fun os started H enc _ => schemaBack_lifted os started H enc)
end Go.Proofs.Ytfodjphcngidbaa
