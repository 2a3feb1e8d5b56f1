/- Catalogs as bytes. -/
import Derived.Test.YtmnafjgkhhdidaaMeth
import Derived.Test.YtmnafjgkhhdidaaSchB
import Derived.Test.YtmnafjgkhhdidaaCodeD
set_option linter.unusedSimpArgs false
set_option linter.unusedVariables false
set_option maxHeartbeats 4000000
set_option maxRecDepth 100000
namespace Go.Proofs.Ytmnafjgkhhdidaa
open Go.Ev
def putL (l : List Int) : List Int := l.flatMap fun n => digN n.toNat
theorem putL_one (n : Nat) : putL [(n : Int)] = digN n := by simp [putL]
theorem putL_snoc (l : List Int) (i : Nat) (h : i < l.length) : putL (l.take (i + 1)) = putL (l.take i) ++ digN l[i].toNat := by
  unfold putL
  rw [List.take_succ_eq_append_getElem h, List.flatMap_append]
  simp
theorem putL_len (l : List Int) (h : ∀ n ∈ l, n ≤ 9223372036854775807) : (putL l).length ≤ 10 * l.length := by
  induction l with
  | nil => simp [putL]
  | cons a l ih =>
    have := ih (fun u hu => h u (by simp [hu]))
    have := digN_ten (u := a.toNat) (by have := h a (by simp); omega)
    simp only [putL, List.flatMap_cons, List.length_append, List.length_cons] at *
    omega
/-- Numbers that are written are from 0 on. -/
def nat63 (l : List Int) : Prop := ∀ n ∈ l, 0 ≤ n ∧ n ≤ 9223372036854775807
theorem wput_ev (b l : List Int) (hb : b.length ≤ 100000) (hl : nat63 l) (hn : l.length ≤ 1000) : cfT tab 50 [.ptr 0 0 0, rI l] [⟨0, .var [rB b]⟩] = some (.tup [], [⟨0, .var [rB (b ++ putL l)]⟩]) := by
  refine cfTA_R (mf := Mf.f50) rfl rfl (by kernel_rfl) ?_
  simp only [Mf.f50]
  simp [beqI, bneI, mm_min2, mm_max2, mm_min3, mm_max3, startE, lkE, lkX, lkE_rest, sx, substE, opVA, objs0, List.replicate, XA_seq, XA_region, XOA_go, goE_someA, opV, ev, putA, layAll, XOA_nil, XA_skip_seq, XA_skip_nil, XOA_gd, goG_tA, goG_uA, binV, bi_add, bi_sub, bi_mul, bi_quo, bi_rem, bi_eql, bi_neq, bi_lss, bi_leq, bi_gtr, bi_geq, bi_shl, bi_shr, bi_and, bi_or, bi_xor, unV, XA_ret_nil, XA_ret_cons, endFA_r, endFA_n, endTA_r, endTA_n, endRA_r, endRA_n, endEA_r, endEA_n, List.take, fltR, resultsA, resAs, resA, XA_block, XA_cond, pickX_t, pickX_f, pickX_b, XA_skip_blk, XA_skip_lp, XA_exit_seq, XA_exit_lp, XA_exit_blk, XA_exit_nil, load1, Ev.loadCells, objCells, bodyCells, setCells, AV.flat, AV.flat1, backR, backV, backCell, mapO, AV.cells, AV.atom, AV.tree, fillV, repeatL, treeCell, freezeAll, eqCells, callV_T, callV_F, passN, passV, passCell, srcCells, sliceBounds, hiB, loB, thenQ_nA, thenQ_xA, thenQ_rA, runK_nA, runK_xA, runK_rA, wrap_i64, wrap_u64, wrap_u32, wrap_u8, wrap_u16, rI]
  refine XA_for (fun i => ⟨[(0, .ptr 0 0 0), (6, rI l), (7, .int .i64 l.length), (8, .int .i64 i)], [⟨0, .var [rB (b ++ putL (l.take i))]⟩]⟩)
    (fun i => True) l.length 0 (Nat.zero_le _) (by simp [AV.atom, normA, lkE, fixObjs, fixBody, fixV, fixCell, rI, rB, putL]) trivial ?_ ?_
  · intro i _ hi _
    have hi' : (i : Int) < l.length := by omega
    have hv := hl _ (List.getElem_mem hi)
    have hln := putL_len (l.take i) (fun n hn => (hl n (List.mem_of_mem_take hn)).2)
    rw [List.length_take] at hln
    have e := put_ev (b ++ putL (l.take i)) l[i].toNat (by rw [List.length_append]; omega) (by omega)
    rw [List.append_assoc, ← putL_snoc l i hi, Int.toNat_of_nonneg hv.1] at e
    have hw : IntKind.u64.wrap l[i] = l[i] := wrap_u64 (by omega) (by omega)
    have ix := idxI l i hi
    generalize b ++ putL (l.take i) = p at *
    generalize b ++ putL (l.take (i + 1)) = q at *
    generalize l[i] = n at *
    simp only [rB] at e
    simp [beqI, bneI, mm_min2, mm_max2, mm_min3, mm_max3, startE, lkE, lkX, lkE_rest, sx, substE, opVA, objs0, List.replicate, XA_seq, XA_region, XOA_go, goE_someA, opV, ev, putA, layAll, XOA_nil, XA_skip_seq, XA_skip_nil, XOA_gd, goG_tA, goG_uA, binV, bi_add, bi_sub, bi_mul, bi_quo, bi_rem, bi_eql, bi_neq, bi_lss, bi_leq, bi_gtr, bi_geq, bi_shl, bi_shr, bi_and, bi_or, bi_xor, unV, XA_ret_nil, XA_ret_cons, endFA_r, endFA_n, endTA_r, endTA_n, endRA_r, endRA_n, endEA_r, endEA_n, List.take, fltR, resultsA, resAs, resA, XA_block, XA_cond, pickX_t, pickX_f, pickX_b, XA_skip_blk, XA_skip_lp, XA_exit_seq, XA_exit_lp, XA_exit_blk, XA_exit_nil, load1, Ev.loadCells, objCells, bodyCells, setCells, AV.flat, AV.flat1, backR, backV, backCell, mapO, AV.cells, AV.atom, AV.tree, fillV, repeatL, treeCell, freezeAll, eqCells, callV_T, callV_F, passN, passV, passCell, srcCells, sliceBounds, hiB, loB, thenQ_nA, thenQ_xA, thenQ_rA, runK_nA, runK_xA, runK_rA, wrap_i64, wrap_u64, wrap_u32, wrap_u8, wrap_u16, AV.atom, normA, lkE, fixObjs, fixBody, fixV, fixCell, hi', rI, rB, ix, hw, e, wrap_succ i l.length hi (by omega)]
  · intro _
    simp [beqI, bneI, mm_min2, mm_max2, mm_min3, mm_max3, startE, lkE, lkX, lkE_rest, sx, substE, opVA, objs0, List.replicate, XA_seq, XA_region, XOA_go, goE_someA, opV, ev, putA, layAll, XOA_nil, XA_skip_seq, XA_skip_nil, XOA_gd, goG_tA, goG_uA, binV, bi_add, bi_sub, bi_mul, bi_quo, bi_rem, bi_eql, bi_neq, bi_lss, bi_leq, bi_gtr, bi_geq, bi_shl, bi_shr, bi_and, bi_or, bi_xor, unV, XA_ret_nil, XA_ret_cons, endFA_r, endFA_n, endTA_r, endTA_n, endRA_r, endRA_n, endEA_r, endEA_n, List.take, fltR, resultsA, resAs, resA, XA_block, XA_cond, pickX_t, pickX_f, pickX_b, XA_skip_blk, XA_skip_lp, XA_exit_seq, XA_exit_lp, XA_exit_blk, XA_exit_nil, load1, Ev.loadCells, objCells, bodyCells, setCells, AV.flat, AV.flat1, backR, backV, backCell, mapO, AV.cells, AV.atom, AV.tree, fillV, repeatL, treeCell, freezeAll, eqCells, callV_T, callV_F, passN, passV, passCell, srcCells, sliceBounds, hiB, loB, thenQ_nA, thenQ_xA, thenQ_rA, runK_nA, runK_xA, runK_rA, wrap_i64, wrap_u64, wrap_u32, wrap_u8, wrap_u16, AV.atom, normA, lkE, fixObjs, fixBody, fixV, fixCell, endRA_n, endRA_r]
structure smallD (d : Dm) : Prop where
  s : d.S.length ≤ 4
  u : d.U.length ≤ 3
  sv : ∀ n ∈ d.S, 0 ≤ n ∧ n ≤ 40
  ul : ∀ l ∈ d.U, l.length ≤ 40
  uv : ∀ l ∈ d.U, ∀ n ∈ l, 0 ≤ n ∧ n ≤ 40
theorem small_of {d : Dm} (h : goodD d.S d.U = true) : smallD d := by
  have h1 := good_len h
  refine ⟨h1.2.1, by omega, fun n hn => ?_, fun l hl => ?_, fun l hl n hn => ?_⟩
  · obtain ⟨i, hi, rfl⟩ := List.getElem_of_mem hn
    have := good_size h hi
    rw [gI_get _ _ hi] at this
    omega
  · obtain ⟨i, hi, rfl⟩ := List.getElem_of_mem hl
    have h2 := (good_up h hi).1
    have := good_size h (i := i) (by omega)
    rw [gR_get _ _ hi] at h2
    omega
  · obtain ⟨i, hi, rfl⟩ := List.getElem_of_mem hl
    obtain ⟨k, hk, rfl⟩ := List.getElem_of_mem hn
    have h2 := (good_up h hi).2 k (by rw [gR_get _ _ hi]; exact hk)
    have := good_size h (i := i + 1) (by omega)
    rw [gR_get _ _ hi, gI_get _ _ hk] at h2
    omega
theorem flatMap_len {α : Type} (f : α → List Int) (c : Nat) : ∀ (l : List α), (∀ x ∈ l, (f x).length ≤ c) → (l.flatMap f).length ≤ c * l.length
  | [], _ => by simp
  | a :: l, h => by
    have h1 := flatMap_len f c l fun x hx => h x (by simp [hx])
    have h2 := h a (by simp)
    rw [List.flatMap_cons, List.length_append, List.length_cons, Nat.mul_add]
    omega
theorem flatMap_snoc {α : Type} (f : α → List Int) (l : List α) (i : Nat) (h : i < l.length) : (l.take (i + 1)).flatMap f = (l.take i).flatMap f ++ f l[i] := by
  rw [List.take_succ_eq_append_getElem h, List.flatMap_append]
  simp
def dimB (d : Dm) : List Int := digN d.S.length ++ (putL d.S ++ d.U.flatMap putL)
theorem smallD.row {d : Dm} (h : smallD d) : ∀ l ∈ d.U, (putL l).length ≤ 400 := by
  intro l hl
  have h1 := putL_len l fun n hn => by have := h.uv l hl n hn; omega
  have h2 := h.ul l hl
  omega
theorem smallD.head {d : Dm} (h : smallD d) : (digN d.S.length).length ≤ 10 ∧ (putL d.S).length ≤ 40 := by
  have h1 := putL_len d.S fun n hn => by have := h.sv n hn; omega
  have h2 := h.s
  exact ⟨digN_ten (by omega), by omega⟩
theorem smallD.rows {d : Dm} (h : smallD d) (k : Nat) : ((d.U.take k).flatMap putL).length ≤ 1200 := by
  have h1 := flatMap_len putL 400 (d.U.take k) fun l hl => h.row l (List.mem_of_mem_take hl)
  rw [List.length_take] at h1
  have := h.u
  omega
theorem smallD.len {d : Dm} (h : smallD d) : (dimB d).length ≤ 1250 := by
  have h1 := h.head
  have h2 := h.rows d.U.length
  rw [List.take_length] at h2
  unfold dimB
  simp only [List.length_append]
  omega
def headB (ds : List Dm) (m : Int) : List Int := digN m.toNat ++ digN ds.length
def bytesG (ds : List Dm) (m : Int) : List Int := headB ds m ++ ds.flatMap dimB
def bytesC (ds : List Dm) (m : Int) : List Int := if goodC ds m = true then bytesG ds m else []
theorem headB_len {ds : List Dm} {m : Int} (g : goodC ds m = true) : (headB ds m).length ≤ 20 := by
  have := goodC_len g
  have h1 := digN_ten (u := m.toNat) (by omega)
  have h2 := digN_ten (u := ds.length) (by omega)
  unfold headB
  rw [List.length_append]
  omega
theorem small_at {ds : List Dm} {m : Int} (g : goodC ds m = true) : ∀ d ∈ ds, smallD d := by
  intro d hd
  unfold goodC at g
  simp only [Bool.and_eq_true, List.all_eq_true] at g
  exact small_of (g.2.2 d hd)
theorem take_len {ds : List Dm} {m : Int} (g : goodC ds m = true) (i : Nat) : ((ds.take i).flatMap dimB).length ≤ 5000 := by
  have h1 := flatMap_len dimB 1250 (ds.take i) fun d hd => (small_at g d (List.mem_of_mem_take hd)).len
  have := goodC_len g
  rw [List.length_take] at h1
  omega
theorem Bytes_ev (ds : List Dm) (m : Int) (hC : okC ds) : cvT tab 32 [.agg [.ro ds.length (flatD ds), .int .i64 m]] = some (rB (bytesC ds m)) := by
  refine cvTA_R (mf := Mf.f32) rfl rfl (by kernel_rfl) ?_
  simp only [Mf.f32]
  cases g : goodC ds m with
  | false => simp [beqI, bneI, mm_min2, mm_max2, mm_min3, mm_max3, startE, lkE, lkX, lkE_rest, sx, substE, opVA, objs0, List.replicate, XA_seq, XA_region, XOA_go, goE_someA, opV, ev, putA, layAll, XOA_nil, XA_skip_seq, XA_skip_nil, XOA_gd, goG_tA, goG_uA, binV, bi_add, bi_sub, bi_mul, bi_quo, bi_rem, bi_eql, bi_neq, bi_lss, bi_leq, bi_gtr, bi_geq, bi_shl, bi_shr, bi_and, bi_or, bi_xor, unV, XA_ret_nil, XA_ret_cons, endFA_r, endFA_n, endTA_r, endTA_n, endRA_r, endRA_n, endEA_r, endEA_n, List.take, fltR, resultsA, resAs, resA, XA_block, XA_cond, pickX_t, pickX_f, pickX_b, XA_skip_blk, XA_skip_lp, XA_exit_seq, XA_exit_lp, XA_exit_blk, XA_exit_nil, load1, Ev.loadCells, objCells, bodyCells, setCells, AV.flat, AV.flat1, backR, backV, backCell, mapO, AV.cells, AV.atom, AV.tree, fillV, repeatL, treeCell, freezeAll, eqCells, callV_T, callV_F, passN, passV, passCell, srcCells, sliceBounds, hiB, loB, thenQ_nA, thenQ_xA, thenQ_rA, runK_nA, runK_xA, runK_rA, wrap_i64, wrap_u64, wrap_u32, wrap_u8, wrap_u16, sgood_ev ds m hC, g, bytesC, rB]
  | true =>
    have hl := goodC_len g
    have hB : bytesC ds m = headB ds m ++ ds.flatMap dimB := by unfold bytesC bytesG; rw [if_pos g]
    have e0 := wput_ev [] [m, ds.length] (by simp) (by intro n hn; simp at hn; omega) (by simp)
    have hp0 : [] ++ putL [m, (ds.length : Int)] = headB ds m := by simp [putL, headB]
    rw [hp0] at e0
    simp only [rI, rB] at e0
    simp at e0
    simp [beqI, bneI, mm_min2, mm_max2, mm_min3, mm_max3, startE, lkE, lkX, lkE_rest, sx, substE, opVA, objs0, List.replicate, XA_seq, XA_region, XOA_go, goE_someA, opV, ev, putA, layAll, XOA_nil, XA_skip_seq, XA_skip_nil, XOA_gd, goG_tA, goG_uA, binV, bi_add, bi_sub, bi_mul, bi_quo, bi_rem, bi_eql, bi_neq, bi_lss, bi_leq, bi_gtr, bi_geq, bi_shl, bi_shr, bi_and, bi_or, bi_xor, unV, XA_ret_nil, XA_ret_cons, endFA_r, endFA_n, endTA_r, endTA_n, endRA_r, endRA_n, endEA_r, endEA_n, List.take, fltR, resultsA, resAs, resA, XA_block, XA_cond, pickX_t, pickX_f, pickX_b, XA_skip_blk, XA_skip_lp, XA_exit_seq, XA_exit_lp, XA_exit_blk, XA_exit_nil, load1, Ev.loadCells, objCells, bodyCells, setCells, AV.flat, AV.flat1, backR, backV, backCell, mapO, AV.cells, AV.atom, AV.tree, fillV, repeatL, treeCell, freezeAll, eqCells, callV_T, callV_F, passN, passV, passCell, srcCells, sliceBounds, hiB, loB, thenQ_nA, thenQ_xA, thenQ_rA, runK_nA, runK_xA, runK_rA, wrap_i64, wrap_u64, wrap_u32, wrap_u8, wrap_u16, callV_O, okIds, passObjs, passBody, backObjs, backBody, adopts, List.idxOf?, List.findIdx?, List.findIdx?.go, sgood_ev ds m hC, g, e0]
    refine XA_for (fun i => ⟨[(3, .ptr 1 0 0), (19, .ro ds.length (flatD ds)), (20, .int .i64 ds.length), (21, .int .i64 i)], [⟨0, .none⟩, ⟨0, .var [rB (headB ds m ++ (ds.take i).flatMap dimB)]⟩, ⟨0, .none⟩]⟩)
      (fun i => True) ds.length 0 (Nat.zero_le _) (by simp [AV.atom, normA, lkE, fixObjs, fixBody, fixV, fixCell, rB]) trivial ?_ ?_
    · intro i _ hi _
      have hi' : (i : Int) < ds.length := by omega
      have hb := headB_len g
      have ht := take_len g i
      have hsn := flatMap_snoc dimB ds i hi
      have hsm := small_at g _ (List.getElem_mem hi)
      have hd := dropD ds i hi
      rw [gD_get hi] at hd
      have hws := wrap_succ i ds.length hi (by omega)
      generalize ds[i] = d at *
      have hh := hsm.head
      have e1 := wput_ev (headB ds m ++ (ds.take i).flatMap dimB) [d.S.length] (by rw [List.length_append]; omega) (by intro n hn; simp at hn; have := hsm.s; omega) (by simp)
      have e2 := wput_ev (headB ds m ++ (ds.take i).flatMap dimB ++ putL [d.S.length]) d.S (by rw [putL_one]; simp only [List.length_append]; omega) (fun n hn => by have := hsm.sv n hn; omega) (by have := hsm.s; omega)
      obtain ⟨A, hA⟩ : ∃ A, headB ds m ++ (ds.take i).flatMap dimB = A := ⟨_, rfl⟩
      obtain ⟨A1, hA1⟩ : ∃ A1, A ++ putL [(d.S.length : Int)] = A1 := ⟨_, rfl⟩
      obtain ⟨A2, hA2⟩ : ∃ A2, A1 ++ putL d.S = A2 := ⟨_, rfl⟩
      rw [hA] at e1 e2
      rw [hA1] at e1 e2
      rw [hA2] at e2
      have hA2l : A2.length ≤ 7000 := by
        rw [← hA2, ← hA1, ← hA, putL_one]
        simp only [List.length_append]
        omega
      simp only [rI, rB, rR] at e1 e2 hd
      simp at e1
      simp [beqI, bneI, mm_min2, mm_max2, mm_min3, mm_max3, startE, lkE, lkX, lkE_rest, sx, substE, opVA, objs0, List.replicate, XA_seq, XA_region, XOA_go, goE_someA, opV, ev, putA, layAll, XOA_nil, XA_skip_seq, XA_skip_nil, XOA_gd, goG_tA, goG_uA, binV, bi_add, bi_sub, bi_mul, bi_quo, bi_rem, bi_eql, bi_neq, bi_lss, bi_leq, bi_gtr, bi_geq, bi_shl, bi_shr, bi_and, bi_or, bi_xor, unV, XA_ret_nil, XA_ret_cons, endFA_r, endFA_n, endTA_r, endTA_n, endRA_r, endRA_n, endEA_r, endEA_n, List.take, fltR, resultsA, resAs, resA, XA_block, XA_cond, pickX_t, pickX_f, pickX_b, XA_skip_blk, XA_skip_lp, XA_exit_seq, XA_exit_lp, XA_exit_blk, XA_exit_nil, load1, Ev.loadCells, objCells, bodyCells, setCells, AV.flat, AV.flat1, backR, backV, backCell, mapO, AV.cells, AV.atom, AV.tree, fillV, repeatL, treeCell, freezeAll, eqCells, callV_T, callV_F, passN, passV, passCell, srcCells, sliceBounds, hiB, loB, thenQ_nA, thenQ_xA, thenQ_rA, runK_nA, runK_xA, runK_rA, wrap_i64, wrap_u64, wrap_u32, wrap_u8, wrap_u16, callV_O, okIds, passObjs, passBody, backObjs, backBody, adopts, List.idxOf?, List.findIdx?, List.findIdx?.go, AV.atom, normA, lkE, fixObjs, fixBody, fixV, fixCell, hi', hd, rB, rR, hA, e1, e2]
      refine XA_for (fun k => ⟨[(3, .ptr 1 0 0), (19, .ro ds.length (flatD ds)), (20, .int .i64 ds.length), (21, .int .i64 i), (34, rR d.U), (35, .int .i64 d.U.length), (36, .int .i64 k)], [⟨0, .none⟩, ⟨0, .var [rB (A2 ++ (d.U.take k).flatMap putL)]⟩, ⟨0, .none⟩]⟩)
        (fun i => True) d.U.length 0 (Nat.zero_le _) (by simp [AV.atom, normA, lkE, fixObjs, fixBody, fixV, fixCell, rB, rR]) trivial ?_ ?_
      · intro k _ hk _
        have hk' : (k : Int) < d.U.length := by omega
        have hrw := hsm.rows k
        have hsn2 := flatMap_snoc putL d.U k hk
        have hmem := List.getElem_mem hk
        have e3 := wput_ev (A2 ++ (d.U.take k).flatMap putL) d.U[k] (by rw [List.length_append]; omega) (fun n hn => by have := hsm.uv _ hmem n hn; omega) (by have := hsm.ul _ hmem; omega)
        rw [List.append_assoc, ← hsn2] at e3
        have ix := idxR d.U k hk
        generalize d.U[k] = row at *
        generalize A2 ++ (d.U.take k).flatMap putL = P at *
        generalize A2 ++ (d.U.take (k + 1)).flatMap putL = Q at *
        have hws2 := wrap_succ k d.U.length hk (by have := hsm.u; omega)
        simp only [rI, rB] at e3 ix
        simp [beqI, bneI, mm_min2, mm_max2, mm_min3, mm_max3, startE, lkE, lkX, lkE_rest, sx, substE, opVA, objs0, List.replicate, XA_seq, XA_region, XOA_go, goE_someA, opV, ev, putA, layAll, XOA_nil, XA_skip_seq, XA_skip_nil, XOA_gd, goG_tA, goG_uA, binV, bi_add, bi_sub, bi_mul, bi_quo, bi_rem, bi_eql, bi_neq, bi_lss, bi_leq, bi_gtr, bi_geq, bi_shl, bi_shr, bi_and, bi_or, bi_xor, unV, XA_ret_nil, XA_ret_cons, endFA_r, endFA_n, endTA_r, endTA_n, endRA_r, endRA_n, endEA_r, endEA_n, List.take, fltR, resultsA, resAs, resA, XA_block, XA_cond, pickX_t, pickX_f, pickX_b, XA_skip_blk, XA_skip_lp, XA_exit_seq, XA_exit_lp, XA_exit_blk, XA_exit_nil, load1, Ev.loadCells, objCells, bodyCells, setCells, AV.flat, AV.flat1, backR, backV, backCell, mapO, AV.cells, AV.atom, AV.tree, fillV, repeatL, treeCell, freezeAll, eqCells, callV_T, callV_F, passN, passV, passCell, srcCells, sliceBounds, hiB, loB, thenQ_nA, thenQ_xA, thenQ_rA, runK_nA, runK_xA, runK_rA, wrap_i64, wrap_u64, wrap_u32, wrap_u8, wrap_u16, callV_O, okIds, passObjs, passBody, backObjs, backBody, adopts, List.idxOf?, List.findIdx?, List.findIdx?.go, AV.atom, normA, lkE, fixObjs, fixBody, fixV, fixCell, hk', ix, rB, rR, e3, hws2]
      · intro _
        have hQ : A2 ++ d.U.flatMap putL = headB ds m ++ (ds.take (i + 1)).flatMap dimB := by
          rw [hsn, ← hA2, ← hA1, ← hA]
          simp [dimB, putL]
        rw [List.take_length, hQ]
        generalize hQQ : headB ds m ++ (ds.take (i + 1)).flatMap dimB = Q
        simp [beqI, bneI, mm_min2, mm_max2, mm_min3, mm_max3, startE, lkE, lkX, lkE_rest, sx, substE, opVA, objs0, List.replicate, XA_seq, XA_region, XOA_go, goE_someA, opV, ev, putA, layAll, XOA_nil, XA_skip_seq, XA_skip_nil, XOA_gd, goG_tA, goG_uA, binV, bi_add, bi_sub, bi_mul, bi_quo, bi_rem, bi_eql, bi_neq, bi_lss, bi_leq, bi_gtr, bi_geq, bi_shl, bi_shr, bi_and, bi_or, bi_xor, unV, XA_ret_nil, XA_ret_cons, endFA_r, endFA_n, endTA_r, endTA_n, endRA_r, endRA_n, endEA_r, endEA_n, List.take, fltR, resultsA, resAs, resA, XA_block, XA_cond, pickX_t, pickX_f, pickX_b, XA_skip_blk, XA_skip_lp, XA_exit_seq, XA_exit_lp, XA_exit_blk, XA_exit_nil, load1, Ev.loadCells, objCells, bodyCells, setCells, AV.flat, AV.flat1, backR, backV, backCell, mapO, AV.cells, AV.atom, AV.tree, fillV, repeatL, treeCell, freezeAll, eqCells, callV_T, callV_F, passN, passV, passCell, srcCells, sliceBounds, hiB, loB, thenQ_nA, thenQ_xA, thenQ_rA, runK_nA, runK_xA, runK_rA, wrap_i64, wrap_u64, wrap_u32, wrap_u8, wrap_u16, AV.atom, normA, lkE, fixObjs, fixBody, fixV, fixCell, rB, hws]
        rw [← hQQ]
        simp
    · intro _
      simp [beqI, bneI, mm_min2, mm_max2, mm_min3, mm_max3, startE, lkE, lkX, lkE_rest, sx, substE, opVA, objs0, List.replicate, XA_seq, XA_region, XOA_go, goE_someA, opV, ev, putA, layAll, XOA_nil, XA_skip_seq, XA_skip_nil, XOA_gd, goG_tA, goG_uA, binV, bi_add, bi_sub, bi_mul, bi_quo, bi_rem, bi_eql, bi_neq, bi_lss, bi_leq, bi_gtr, bi_geq, bi_shl, bi_shr, bi_and, bi_or, bi_xor, unV, XA_ret_nil, XA_ret_cons, endFA_r, endFA_n, endTA_r, endTA_n, endRA_r, endRA_n, endEA_r, endEA_n, List.take, fltR, resultsA, resAs, resA, XA_block, XA_cond, pickX_t, pickX_f, pickX_b, XA_skip_blk, XA_skip_lp, XA_exit_seq, XA_exit_lp, XA_exit_blk, XA_exit_nil, load1, Ev.loadCells, objCells, bodyCells, setCells, AV.flat, AV.flat1, backR, backV, backCell, mapO, AV.cells, AV.atom, AV.tree, fillV, repeatL, treeCell, freezeAll, eqCells, callV_T, callV_F, passN, passV, passCell, srcCells, sliceBounds, hiB, loB, thenQ_nA, thenQ_xA, thenQ_rA, runK_nA, runK_xA, runK_rA, wrap_i64, wrap_u64, wrap_u32, wrap_u8, wrap_u16, AV.atom, normA, lkE, fixObjs, fixBody, fixV, fixCell, hB, rB]
end Go.Proofs.Ytmnafjgkhhdidaa
