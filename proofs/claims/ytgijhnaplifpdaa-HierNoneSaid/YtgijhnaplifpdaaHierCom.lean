/- What the laws of one dimension share. -/
import Derived.Test.YtgijhnaplifpdaaHierRef
import Derived.Test.YtgijhnaplifpdaaKeep
import Derived.Test.YtgijhnaplifpdaaDims
set_option linter.unusedSimpArgs false
set_option linter.unusedVariables false
set_option maxHeartbeats 4000000
set_option maxRecDepth 100000
namespace Go.Proofs.Ytgijhnaplifpdaa
open Go.Ev
theorem fits_of {S : List Int} {U : List (List Int)} (h : okD S U) : S.length ≤ 9223372036854775807 ∧ fitsU U := ⟨h.1.1, h.2.1, fun l hl => (h.2.2 l hl).1⟩
theorem wakes_ev : cvF tab 9 [] = some (.bool true) := by
  have h : (evalFun tab 400 9 [] []).map (fun p => match p.1 with | .bool b => b | _ => false) = some true := by kernel_rfl
  obtain ⟨⟨r, H1⟩, h1, h2⟩ := Option.map_eq_some_iff.1 h
  have h3 := cfT_of h1
  unfold cvF
  rw [h3]
  cases r <;> simp at h2
  subst h2
  rfl
theorem held_ev (x m : Int) (h0 : 0 ≤ x) (h1 : x ≤ 255) (hm : 1 ≤ m) : cvF tab 13 [.int .u8 x, .int .i64 m] = some (.int .i64 (x.tmod m)) := by
  refine cvFA_R (mf := Mf.f13) rfl rfl (by kernel_rfl) ?_
  simp only [Mf.f13]
  have e1 : IntKind.i64.wrap x = x := wrap_i64 (by omega) (by omega)
  have e2 : max m 1 = m := by omega
  have e3 : ¬ m = 0 := by omega
  simp [beqI, bneI, mm_min2, mm_max2, mm_min3, mm_max3, startE, lkE, lkX, lkE_rest, sx, substE, opVA, objs0, List.replicate, XA_seq, XA_region, XOA_go, goE_someA, opV, ev, putA, layAll, XOA_nil, XA_skip_seq, XA_skip_nil, XOA_gd, goG_tA, goG_uA, binV, binInt, unV, XA_ret_nil, XA_ret_cons, endFA_r, endFA_n, endTA_r, endTA_n, endRA_r, endRA_n, fltR, resultsA, resAs, resA, XA_block, XA_cond, pickX_t, pickX_f, pickX_b, XA_skip_blk, XA_skip_lp, XA_exit_seq, XA_exit_lp, XA_exit_blk, XA_exit_nil, load1, Ev.loadCells, objCells, bodyCells, setCells, AV.flat, AV.flat1, backR, backV, backCell, mapO, AV.cells, AV.atom, AV.tree, fillV, repeatL, treeCell, freezeAll, eqCells, callV_T, callV_F, passV, passCell, srcCells, sliceBounds, hiB, loB, thenQ_nA, thenQ_xA, thenQ_rA, runK_nA, runK_xA, runK_rA, wrap_i64, wrap_u64, wrap_u32, wrap_u8, wrap_u16, e1, e2, e3]
theorem held_in (x m : Int) (h0 : 0 ≤ x) (hm : 1 ≤ m) : 0 ≤ x.tmod m ∧ x.tmod m < m := ⟨Int.tmod_nonneg _ h0, Int.tmod_lt_of_pos _ (by omega)⟩
theorem liftOk_of {S : List Int} {U : List (List Int)} (h : goodD S U = true) {a b m : Int} (h0 : 0 ≤ a) (h1 : a ≤ b) (h2 : b ≤ S.length) (h3 : 0 ≤ m) (h4 : m < sizeD S U a) : liftOk S U a b m = true := by
  have hb : sizeD S U b ≠ 0 := by
    unfold sizeD
    rw [if_pos ⟨h, by omega, h2⟩]
    split
    · omega
    · have := good_size h (i := b.toNat) (by omega)
      omega
  simp [liftOk, h1, hb, h3, h4]
theorem size_pos {S : List Int} {U : List (List Int)} (h : goodD S U = true) {a : Int} (h0 : 0 ≤ a) (h2 : a ≤ S.length) : 1 ≤ sizeD S U a := by
  unfold sizeD
  rw [if_pos ⟨h, h0, h2⟩]
  split
  · omega
  · have := good_size h (i := a.toNat) (by omega)
    omega
theorem liftN_add (U : List (List Int)) (a n : Nat) (m : Int) : ∀ k, liftN U (a + n) (liftN U a m n) k = liftN U a m (n + k)
  | 0 => rfl
  | k + 1 => by
    rw [← Nat.add_assoc n k 1]
    simp only [liftN]
    rw [liftN_add U a n m k, Nat.add_assoc]
theorem liftD_comp {S : List Int} {U : List (List Int)} {a b c : Nat} (m : Int) (h1 : a ≤ b) (h2 : b ≤ c) (h3 : c ≤ S.length) : liftD S U b c (liftD S U a b m) = liftD S U a c m := by
  unfold liftD
  by_cases e : c = S.length
  · rw [if_pos e, if_pos e]
  · rw [if_neg e, if_neg e, if_neg (by omega)]
    have := liftN_add U a (b - a) m (c - b)
    rw [show a + (b - a) = b from by omega, show b - a + (c - b) = c - a from by omega] at this
    exact this
theorem liftD_self {S : List Int} {U : List (List Int)} (h : goodD S U = true) {a : Nat} {m : Int} (h1 : a ≤ S.length) (h2 : 0 ≤ m) (h3 : m < sizeD S U a) : liftD S U a a m = m := by
  unfold liftD
  by_cases e : a = S.length
  · rw [if_pos e]
    rw [e, sizeD_end h] at h3
    omega
  · rw [if_neg e, Nat.sub_self]; rfl
end Go.Proofs.Ytgijhnaplifpdaa
