/- What the laws of nodes share. -/
import Derived.Test.YtambpbcdnhekbaaLatB
import Derived.Test.YtambpbcdnhekbaaCatRef
set_option linter.unusedSimpArgs false
set_option linter.unusedVariables false
set_option maxHeartbeats 4000000
set_option maxRecDepth 100000
namespace Go.Proofs.Ytambpbcdnhekbaa
open Go.Ev
theorem mem_allQ {w0 w1 w2 w3 : Nat} {x : List Int} : x ∈ allQ w0 w1 w2 w3 ↔ ∃ a b c d : Nat, x = [(a : Int), (b : Int), (c : Int), (d : Int)] ∧ a ≤ w0 ∧ b ≤ w1 ∧ c ≤ w2 ∧ d ≤ w3 := by
  constructor
  · intro h
    obtain ⟨a, ha, h⟩ := List.mem_flatMap.1 h
    obtain ⟨b, hb, h⟩ := List.mem_flatMap.1 h
    obtain ⟨c, hc, h⟩ := List.mem_flatMap.1 h
    obtain ⟨d, hd, rfl⟩ := List.mem_map.1 h
    rw [List.mem_range] at ha hb hc hd
    exact ⟨a, b, c, d, rfl, by omega, by omega, by omega, by omega⟩
  · rintro ⟨a, b, c, d, rfl, ha, hb, hc, hd⟩
    exact List.mem_flatMap.2 ⟨a, List.mem_range.2 (by omega), List.mem_flatMap.2 ⟨b, List.mem_range.2 (by omega), List.mem_flatMap.2 ⟨c, List.mem_range.2 (by omega), List.mem_map.2 ⟨d, List.mem_range.2 (by omega), rfl⟩⟩⟩⟩
def bytesN (x : List Int) : List UInt8 := x.map fun n => UInt8.ofNat n.toNat
theorem u8_lt {a b : Nat} (h : a < b) (hb : b ≤ 255) : UInt8.ofNat a < UInt8.ofNat b := by
  rw [UInt8.lt_iff_toNat_lt]
  simp
  omega
theorem less_at {a b : Nat} (h : a < b) (hb : b ≤ 255) (x y : List UInt8) : Op.bytesLess (UInt8.ofNat a :: x) (UInt8.ofNat b :: y) = true := by
  simp [Op.bytesLess, u8_lt h hb]
theorem less_eq (a : UInt8) (x y : List UInt8) : Op.bytesLess (a :: x) (a :: y) = Op.bytesLess x y := by
  simp [Op.bytesLess]
theorem allQ_sorted {w0 w1 w2 w3 : Nat} (h0 : w0 ≤ 255) (h1 : w1 ≤ 255) (h2 : w2 ≤ 255) (h3 : w3 ≤ 255) : (allQ w0 w1 w2 w3).Pairwise fun x y => Op.bytesLess (bytesN x) (bytesN y) = true := by
  unfold allQ
  rw [List.pairwise_flatMap]
  refine ⟨fun a ha => ?_, ?_⟩
  · unfold full1
    rw [List.pairwise_flatMap]
    refine ⟨fun b hb => ?_, ?_⟩
    · unfold full2
      rw [List.pairwise_flatMap]
      refine ⟨fun c hc => ?_, ?_⟩
      · unfold full3
        rw [List.pairwise_map]
        refine List.Pairwise.imp_of_mem (R := (· < ·)) ?_ List.pairwise_lt_range
        intro d d' hd hd' hlt
        rw [List.mem_range] at hd hd'
        simp only [bytesN, List.map, Int.toNat_natCast, less_eq]
        exact less_at hlt (by omega) _ _
      · refine List.Pairwise.imp_of_mem (R := (· < ·)) ?_ List.pairwise_lt_range
        intro c c' hc hc' hlt x hx y hy
        rw [List.mem_range] at hc hc'
        obtain ⟨d, _, rfl⟩ := List.mem_map.1 hx
        obtain ⟨d', _, rfl⟩ := List.mem_map.1 hy
        simp only [bytesN, List.map, Int.toNat_natCast, less_eq]
        exact less_at hlt (by omega) _ _
    · refine List.Pairwise.imp_of_mem (R := (· < ·)) ?_ List.pairwise_lt_range
      intro b b' hb hb' hlt x hx y hy
      rw [List.mem_range] at hb hb'
      obtain ⟨c, _, hx⟩ := List.mem_flatMap.1 hx
      obtain ⟨d, _, rfl⟩ := List.mem_map.1 hx
      obtain ⟨c', _, hy⟩ := List.mem_flatMap.1 hy
      obtain ⟨d', _, rfl⟩ := List.mem_map.1 hy
      simp only [bytesN, List.map, Int.toNat_natCast, less_eq]
      exact less_at hlt (by omega) _ _
  · refine List.Pairwise.imp_of_mem (R := (· < ·)) ?_ List.pairwise_lt_range
    intro a a' ha ha' hlt x hx y hy
    rw [List.mem_range] at ha ha'
    obtain ⟨b, _, hx⟩ := List.mem_flatMap.1 hx
    obtain ⟨c, _, hx⟩ := List.mem_flatMap.1 hx
    obtain ⟨d, _, rfl⟩ := List.mem_map.1 hx
    obtain ⟨b', _, hy⟩ := List.mem_flatMap.1 hy
    obtain ⟨c', _, hy⟩ := List.mem_flatMap.1 hy
    obtain ⟨d', _, rfl⟩ := List.mem_map.1 hy
    simp only [bytesN, List.map, Int.toNat_natCast]
    exact less_at hlt (by omega) _ _
theorem sum_const (n k : Nat) : ∀ (l : List Nat), (l.map fun _ => k).sum = l.length * k
  | [] => by simp
  | a :: l => by rw [List.map_cons, List.sum_cons, sum_const n k l, List.length_cons, Nat.succ_mul]; omega
theorem allQ_len (w0 w1 w2 w3 : Nat) : (allQ w0 w1 w2 w3).length = (w0 + 1) * ((w1 + 1) * ((w2 + 1) * (w3 + 1))) := by
  have e3 : ∀ a b c, (full3 w3 a b c).length = w3 + 1 := fun a b c => by simp [full3]
  have e2 : ∀ a b, (full2 w2 w3 a b).length = (w2 + 1) * (w3 + 1) := fun a b => by
    unfold full2
    rw [List.length_flatMap]
    simp only [e3]
    rw [sum_const 0, List.length_range]
  have e1 : ∀ a, (full1 w1 w2 w3 a).length = (w1 + 1) * ((w2 + 1) * (w3 + 1)) := fun a => by
    unfold full1
    rw [List.length_flatMap]
    simp only [e2]
    rw [sum_const 0, List.length_range]
  unfold allQ
  rw [List.length_flatMap]
  simp only [e1]
  rw [sum_const 0, List.length_range]
theorem wOf_out {ds : List Dm} {i : Nat} (h : ¬ i < ds.length) : wOf ds i = 0 := by
  unfold wOf; rw [if_neg h]
theorem count_all (ds : List Dm) (m : Int) : ((allN ds m).length : Int) = countC ds m := by
  unfold allN countC
  by_cases g : goodC ds m = true
  · rw [if_pos g, if_pos g, allQ_len]
    have hl := goodC_len g
    have : ds.length = 1 ∨ ds.length = 2 ∨ ds.length = 3 ∨ ds.length = 4 := by omega
    rcases this with h | h | h | h
    · rw [wOf_out (ds := ds) (i := 1) (by omega), wOf_out (ds := ds) (i := 2) (by omega), wOf_out (ds := ds) (i := 3) (by omega), h]
      simp [prodTo]
    · rw [wOf_out (ds := ds) (i := 2) (by omega), wOf_out (ds := ds) (i := 3) (by omega), h]
      simp [prodTo]
    · rw [wOf_out (ds := ds) (i := 3) (by omega), h]
      simp [prodTo, Int.mul_assoc]
    · rw [h]
      simp [prodTo, Int.mul_assoc]
  · rw [if_neg g, if_neg g]; rfl
theorem allQ_le {w0 w1 w2 w3 : Nat} (h0 : w0 ≤ 4) (h1 : w1 ≤ 4) (h2 : w2 ≤ 4) (h3 : w3 ≤ 4) : (allQ w0 w1 w2 w3).length ≤ 625 := by
  rw [allQ_len]
  have e : (w2 + 1) * (w3 + 1) ≤ 5 * 5 := Nat.mul_le_mul (by omega) (by omega)
  have e1 : (w1 + 1) * ((w2 + 1) * (w3 + 1)) ≤ 5 * (5 * 5) := Nat.mul_le_mul (by omega) e
  exact Nat.mul_le_mul (show w0 + 1 ≤ 5 by omega) e1
theorem allN_mem {ds : List Dm} {m : Int} (g : goodC ds m = true) {x : List Int} (hx : okN x) : x ∈ allN ds m ↔ goodN ds m x = true := by
  obtain ⟨a, b, c, d, rfl, ha, hb, hc, hd⟩ := four hx
  unfold byte at *
  rw [goodN_iff g hx]
  unfold allN
  rw [if_pos g, mem_allQ]
  simp only [gI, List.getD_cons_zero, List.getD_cons_succ]
  constructor
  · rintro ⟨a', b', c', d', h, h1, h2, h3, h4⟩
    simp only [List.cons.injEq] at h
    omega
  · rintro ⟨h1, h2, h3, h4⟩
    exact ⟨a.toNat, b.toNat, c.toNat, d.toNat, by
      rw [Int.toNat_of_nonneg ha.1, Int.toNat_of_nonneg hb.1, Int.toNat_of_nonneg hc.1, Int.toNat_of_nonneg hd.1], by omega, by omega, by omega, by omega⟩
theorem rGood_ev (ds : List Dm) (m : Int) (v : List Int) (hC : okC ds) (hv : okN v) : cvF tab 31 [.agg [.ro ds.length (flatD ds), .int .i64 m], .agg (v.map (.int .u8))] = some (.bool (goodN ds m v)) := by
  refine cvFA_R (mf := Mf.f31) rfl rfl (by kernel_rfl) ?_
  simp only [Mf.f31]
  obtain ⟨a, b, c, d, rfl, ha, hb, hc, hd⟩ := four hv
  have e := rright_ev ds m [a, b, c, d] zero4 hC hv ok_zero4
  simp only [List.map, zero4] at e
  simp [beqI, bneI, mm_min2, mm_max2, mm_min3, mm_max3, startE, lkE, lkX, lkE_rest, sx, substE, opVA, objs0, List.replicate, XA_seq, XA_region, XOA_go, goE_someA, opV, ev, putA, layAll, XOA_nil, XA_skip_seq, XA_skip_nil, XOA_gd, goG_tA, goG_uA, binV, binInt, unV, XA_ret_nil, XA_ret_cons, endFA_r, endFA_n, endTA_r, endTA_n, endRA_r, endRA_n, fltR, resultsA, resAs, resA, XA_block, XA_cond, pickX_t, pickX_f, pickX_b, XA_skip_blk, XA_skip_lp, XA_exit_seq, XA_exit_lp, XA_exit_blk, XA_exit_nil, load1, Ev.loadCells, objCells, bodyCells, setCells, AV.flat, AV.flat1, backR, backV, backCell, mapO, AV.cells, AV.atom, AV.tree, fillV, repeatL, treeCell, freezeAll, eqCells, callV_T, callV_F, passN, passV, passCell, srcCells, sliceBounds, hiB, loB, thenQ_nA, thenQ_xA, thenQ_rA, runK_nA, runK_xA, runK_rA, wrap_i64, wrap_u64, wrap_u32, wrap_u8, wrap_u16, e, goodN, zero4]
end Go.Proofs.Ytambpbcdnhekbaa
