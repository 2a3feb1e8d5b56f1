/- Queries as bytes: the program's. -/
import Derived.Test.YtambpbcdnhekbaaQF
set_option linter.unusedSimpArgs false
set_option linter.unusedVariables false
set_option maxHeartbeats 8000000
set_option maxRecDepth 100000
namespace Go.Proofs.Ytambpbcdnhekbaa
open Go.Ev
theorem numsF_take (F : List Fx) (i : Nat) (h : i < F.length) : (F.take (i + 1)).flatMap numsF = (F.take i).flatMap numsF ++ numsF F[i] := flat_take_succ numsF F i h
theorem numsF_le {F : List Fx} (h : ∀ f ∈ F, f.ms.length ≤ 60) : (F.flatMap numsF).length ≤ 63 * F.length := by
  induction F with
  | nil => simp
  | cons f F ih =>
    have h1 := h f (by simp)
    have h2 := ih fun x hx => h x (by simp [hx])
    rw [List.flatMap_cons, List.length_append, List.length_cons]
    simp only [numsF, List.length_cons]
    omega
theorem light_parts {q : Qy} (h : lightQ q = true) : q.F.length ≤ 10 ∧ ∀ f ∈ q.F, f.ms.length ≤ 60 := by
  simpa [lightQ] using h
def textT (q : Qy) : AV := if okT q = true then .tup [rB (bytesQ q), .bool true] else .tup [rB [], .bool false]
theorem qbytes_ev (q : Qy) (hL : lightQ q = true) : cvT tab 16 [.agg (qyC q)] = some (textT q) := by
  refine cvTA_R (mf := Mf.f16) rfl rfl (by kernel_rfl) ?_
  simp only [Mf.f16]
  obtain ⟨hL1, hL2⟩ := light_parts hL
  have hfin : textT q = if (numsQ q).any badN = true then .tup [rB [], .bool false] else .tup [rB (q.n ++ (numsQ q).flatMap digU), .bool true] := by
    unfold textT bytesQ okT
    cases (numsQ q).any badN <;> rfl
  rw [hfin]
  obtain ⟨a, b, c, e, F, t, me, fn, li⟩ := q
  simp only at hL1 hL2
  have hcl := callV_cloneO (M := tab) (H := [⟨1, .var [.int .u8 a, .int .u8 b, .int .u8 c, .int .u8 e, .ro F.length (flatF F), .int .i64 t, .int .i64 me, .int .i64 fn, .int .i64 li]⟩, ⟨0, .none⟩, ⟨0, .none⟩, ⟨0, .none⟩]) (f := 40) (i := 0) (ver := 1) (off := 0) (n := 4) (t := 1) (bytes := 1) (sz := 1)
    (b := .var [.int .u8 a, .int .u8 b, .int .u8 c, .int .u8 e, .ro F.length (flatF F), .int .i64 t, .int .i64 me, .int .i64 fn, .int .i64 li])
    (cs := [.int .u8 a, .int .u8 b, .int .u8 c, .int .u8 e, .ro F.length (flatF F), .int .i64 t, .int .i64 me, .int .i64 fn, .int .i64 li]) ⟨0, .none⟩ rfl
    (by
      simp only [tab]
      rw [orX_own]
      simp [cloneY, ownIds, List.lookup]) rfl (by simp [passBody, mapO, passCell, passV, AV.atom]) (fun H1 => by simp [backBody, mapO, backCell, backV, AV.atom]) rfl (by decide) (by simp) (by simp [AV.tree]) (by decide) (by decide) rfl (by decide)
  have e1 := wput_ev [a, b, c, e] false [(F.length : Int)] (by simp)
  have hpre : ∀ i, ((F.take i).flatMap numsF).length ≤ 630 := fun i => by
    have h1 := numsF_le (F := F.take i) (fun f hf => hL2 f (List.mem_of_mem_take hf))
    have h2 : (F.take i).length ≤ F.length := by rw [List.length_take]; omega
    omega
  obtain ⟨P, hP⟩ : ∃ x : List Int, x = [a, b, c, e] ++ [(F.length : Int)].flatMap digU := ⟨_, rfl⟩
  obtain ⟨bd, hbd⟩ : ∃ x : Bool, x = (false || [(F.length : Int)].any badN) := ⟨_, rfl⟩
  rw [← hP, ← hbd] at e1
  have hPl : P.length ≤ 20 := by
    rw [hP, List.length_append]
    have := flatU_len [(F.length : Int)]
    simp only [List.length_cons, List.length_nil] at *
    omega
  have hfn : numsQ ⟨a, b, c, e, F, t, me, fn, li⟩ = [(F.length : Int)] ++ (F.flatMap numsF ++ [t, me, fn, li]) := rfl
  rw [hfn, List.flatMap_append, List.any_append, List.flatMap_append, List.any_append]
  simp only [Qy.n]
  rw [← List.append_assoc, ← hP, show [(F.length : Int)].any badN = bd from by rw [hbd]; simp]
  obtain ⟨Z, hZ⟩ : ∃ Z, (if (bd || ((F.flatMap numsF).any badN || [t, me, fn, li].any badN)) = true then AV.tup [rB [], .bool false] else .tup [rB (P ++ ((F.flatMap numsF).flatMap digU ++ [t, me, fn, li].flatMap digU)), .bool true]) = Z := ⟨_, rfl⟩
  rw [hZ]
  simp [rI, wO, rB] at e1
  simp only [qyC]
  simp [beqI, bneI, mm_min2, mm_max2, mm_min3, mm_max3, startE, lkE, lkX, lkE_rest, sx, substE, opVA, objs0, List.replicate, XA_seq, XA_region, XOA_go, goE_someA, opV, ev, putA, layAll, XOA_nil, XA_skip_seq, XA_skip_nil, XOA_gd, goG_tA, goG_uA, binV, bi_add, bi_sub, bi_mul, bi_quo, bi_rem, bi_eql, bi_neq, bi_lss, bi_leq, bi_gtr, bi_geq, bi_shl, bi_shr, bi_and, bi_or, bi_xor, unV, XA_ret_nil, XA_ret_cons, endFA_r, endFA_n, endTA_r, endTA_n, endRA_r, endRA_n, fltR, resultsA, resAs, resA, XA_block, XA_cond, pickX_t, pickX_f, pickX_b, XA_skip_blk, XA_skip_lp, XA_exit_seq, XA_exit_lp, XA_exit_blk, XA_exit_nil, load1, Ev.loadCells, objCells, bodyCells, setCells, AV.flat, AV.flat1, backR, backV, backCell, mapO, AV.cells, AV.atom, AV.tree, fillV, repeatL, treeCell, freezeAll, eqCells, callV_T, callV_F, passN, passV, passCell, srcCells, sliceBounds, hiB, loB, thenQ_nA, thenQ_xA, thenQ_rA, runK_nA, runK_xA, runK_rA, wrap_i64, wrap_u64, wrap_u32, wrap_u8, wrap_u16, callV_O, okIds, passObjs, passBody, backObjs, backBody, adopts, List.idxOf?, List.findIdx?, List.findIdx?.go, hcl, e1]
  refine XA_for (fun i => ⟨[(1, .ptr 0 0 0), (4, .ptr 2 0 0), (19, .ro F.length (flatF F)), (20, .int .i64 F.length), (21, .int .i64 i)], [⟨0, .var [.int .u8 a, .int .u8 b, .int .u8 c, .int .u8 e, .ro F.length (flatF F), .int .i64 t, .int .i64 me, .int .i64 fn, .int .i64 li]⟩, ⟨0, .row false 1 [.int .u8 a, .int .u8 b, .int .u8 c, .int .u8 e]⟩, wO (P ++ ((F.take i).flatMap numsF).flatMap digU) (bd || ((F.take i).flatMap numsF).any badN), ⟨0, .none⟩]⟩)
    (fun _ => True) F.length 0 (Nat.zero_le _) (by simp [AV.atom, normA, lkE, fixObjs, fixBody, fixV, fixCell, wO, rB]) trivial ?_ ?_
  · intro i _ hi _
    have hi' : (i : Int) < F.length := by omega
    have hdr := dropF' F i hi
    have hws := wrap_succ i F.length hi (by omega)
    have hm := hL2 _ (List.getElem_mem hi)
    have hfl := flatU_len ((F.take i).flatMap numsF)
    have hpi := hpre i
    rw [numsF_take F i hi]
    generalize F[i] = f at *
    obtain ⟨d, l, ms⟩ := f
    simp only at hm hdr
    rw [show numsF ⟨d, l, ms⟩ = [d, l, (ms.length : Int)] ++ ms from rfl, List.flatMap_append, List.any_append, List.flatMap_append, List.any_append, ← List.append_assoc, ← Bool.or_assoc, ← List.append_assoc, ← Bool.or_assoc]
    have hB : (P ++ ((F.take i).flatMap numsF).flatMap digU).length ≤ 7000 := by rw [List.length_append]; omega
    generalize P ++ ((F.take i).flatMap numsF).flatMap digU = B at *
    generalize (bd || ((F.take i).flatMap numsF).any badN) = x at *
    have w1 := wput_ev B x [d, l, (ms.length : Int)] (by simp only [List.length_cons, List.length_nil]; omega)
    have hB2 : (B ++ [d, l, (ms.length : Int)].flatMap digU).length ≤ 7100 := by
      have := flatU_len [d, l, (ms.length : Int)]
      rw [List.length_append]
      simp only [List.length_cons, List.length_nil] at *
      omega
    generalize B ++ [d, l, (ms.length : Int)].flatMap digU = B2 at *
    generalize (x || [d, l, (ms.length : Int)].any badN) = x2 at *
    have w2 := wput_ev B2 x2 ms (by omega)
    generalize B2 ++ ms.flatMap digU = B3 at *
    generalize (x2 || ms.any badN) = x3 at *
    simp [rI, wO, rB] at w1
    simp only [rI, wO, rB] at w2 hdr
    simp [beqI, bneI, mm_min2, mm_max2, mm_min3, mm_max3, startE, lkE, lkX, lkE_rest, sx, substE, opVA, objs0, List.replicate, XA_seq, XA_region, XOA_go, goE_someA, opV, ev, putA, layAll, XOA_nil, XA_skip_seq, XA_skip_nil, XOA_gd, goG_tA, goG_uA, binV, bi_add, bi_sub, bi_mul, bi_quo, bi_rem, bi_eql, bi_neq, bi_lss, bi_leq, bi_gtr, bi_geq, bi_shl, bi_shr, bi_and, bi_or, bi_xor, unV, XA_ret_nil, XA_ret_cons, endFA_r, endFA_n, endTA_r, endTA_n, endRA_r, endRA_n, fltR, resultsA, resAs, resA, XA_block, XA_cond, pickX_t, pickX_f, pickX_b, XA_skip_blk, XA_skip_lp, XA_exit_seq, XA_exit_lp, XA_exit_blk, XA_exit_nil, load1, Ev.loadCells, objCells, bodyCells, setCells, AV.flat, AV.flat1, backR, backV, backCell, mapO, AV.cells, AV.atom, AV.tree, fillV, repeatL, treeCell, freezeAll, eqCells, callV_T, callV_F, passN, passV, passCell, srcCells, sliceBounds, hiB, loB, thenQ_nA, thenQ_xA, thenQ_rA, runK_nA, runK_xA, runK_rA, wrap_i64, wrap_u64, wrap_u32, wrap_u8, wrap_u16, callV_O, okIds, passObjs, passBody, backObjs, backBody, adopts, List.idxOf?, List.findIdx?, List.findIdx?.go, AV.atom, normA, lkE, fixObjs, fixBody, fixV, fixCell, wO, rB, hi', hi, hdr, hws, w1, w2]
  · intro _
    rw [List.take_length]
    have hfl := flatU_len (F.flatMap numsF)
    have hpi := numsF_le hL2
    rw [← hZ]
    rw [← List.append_assoc, ← Bool.or_assoc]
    have hB : (P ++ (F.flatMap numsF).flatMap digU).length ≤ 7000 := by rw [List.length_append]; omega
    generalize P ++ (F.flatMap numsF).flatMap digU = B at *
    generalize (bd || (F.flatMap numsF).any badN) = x at *
    have w1 := wput_ev B x [t, me, fn, li] (by simp only [List.length_cons, List.length_nil]; omega)
    generalize B ++ [t, me, fn, li].flatMap digU = B2 at *
    generalize (x || [t, me, fn, li].any badN) = x2 at *
    simp [rI, wO, rB] at w1
    cases x2 <;> simp [beqI, bneI, mm_min2, mm_max2, mm_min3, mm_max3, startE, lkE, lkX, lkE_rest, sx, substE, opVA, objs0, List.replicate, XA_seq, XA_region, XOA_go, goE_someA, opV, ev, putA, layAll, XOA_nil, XA_skip_seq, XA_skip_nil, XOA_gd, goG_tA, goG_uA, binV, bi_add, bi_sub, bi_mul, bi_quo, bi_rem, bi_eql, bi_neq, bi_lss, bi_leq, bi_gtr, bi_geq, bi_shl, bi_shr, bi_and, bi_or, bi_xor, unV, XA_ret_nil, XA_ret_cons, endFA_r, endFA_n, endTA_r, endTA_n, endRA_r, endRA_n, fltR, resultsA, resAs, resA, XA_block, XA_cond, pickX_t, pickX_f, pickX_b, XA_skip_blk, XA_skip_lp, XA_exit_seq, XA_exit_lp, XA_exit_blk, XA_exit_nil, load1, Ev.loadCells, objCells, bodyCells, setCells, AV.flat, AV.flat1, backR, backV, backCell, mapO, AV.cells, AV.atom, AV.tree, fillV, repeatL, treeCell, freezeAll, eqCells, callV_T, callV_F, passN, passV, passCell, srcCells, sliceBounds, hiB, loB, thenQ_nA, thenQ_xA, thenQ_rA, runK_nA, runK_xA, runK_rA, wrap_i64, wrap_u64, wrap_u32, wrap_u8, wrap_u16, callV_O, okIds, passObjs, passBody, backObjs, backBody, adopts, List.idxOf?, List.findIdx?, List.findIdx?.go, AV.atom, normA, lkE, fixObjs, fixBody, fixV, fixCell, wO, rB, w1]
end Go.Proofs.Ytambpbcdnhekbaa
