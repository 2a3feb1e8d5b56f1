/- What the laws of places share. -/
import Derived.Test.YtafjljlcdfccjaaLiftC
import Derived.Test.YtafjljlcdfccjaaLight
set_option linter.unusedSimpArgs false
set_option linter.unusedVariables false
set_option maxHeartbeats 4000000
set_option maxRecDepth 100000
namespace Go.Proofs.Ytafjljlcdfccjaa
open Go.Ev
theorem wakes_ev : cvF tab 9 [] = some (.bool true) := by
  have h : (evalFun tab 400 9 [] []).map (fun p => match p.1 with | .bool b => b | _ => false) = some true := by kernel_rfl
  obtain ⟨⟨r, H1⟩, h1, h2⟩ := Option.map_eq_some_iff.1 h
  have h3 := cfT_of h1
  unfold cvF
  rw [h3]
  cases r <;> simp at h2
  subst h2
  rfl
theorem rd_n {cs : List AV} (h : RD gN cs) : ∃ v, cs = v.map (.int .u8) ∧ okN v := by
  obtain ⟨L, hL, rfl, hx⟩ := h
  obtain ⟨l, h1, h2, h3⟩ := rd_map (f := AV.int .u8) (P := byte) (fun cs h => rd_u8 h) hx
  exact ⟨l, h2, by rw [← h1, hL], h3⟩
def gWay : GT := .pair gCat (.pair gN (.pair gN (.pair gN (.pair gN .unit))))
def wayV (ds : List Dm) (m : Int) (u v w a : List Int) : AV := .agg (.ro ds.length (flatD ds) :: .int .i64 m :: (u.map (.int .u8) ++ (v.map (.int .u8) ++ (w.map (.int .u8) ++ a.map (.int .u8)))))
theorem rdarg_way {x : AV} (h : RDarg gWay x) : ∃ ds m u v w a, x = wayV ds m u v w a ∧ okC ds ∧ okN u ∧ okN v ∧ okN w ∧ okN a := by
  simp only [RDarg, gWay, isAggG, if_true] at h
  obtain ⟨cs, rfl, c, r, rfl, hc, u, r, rfl, hu, v, r, rfl, hv, w, r, rfl, hw, a, r, rfl, ha, rfl⟩ := h
  obtain ⟨ds, m, rfl, hC, hm⟩ := rd_cat hc
  obtain ⟨u, rfl, hu'⟩ := rd_n hu
  obtain ⟨v, rfl, hv'⟩ := rd_n hv
  obtain ⟨w, rfl, hw'⟩ := rd_n hw
  obtain ⟨a, rfl, ha'⟩ := rd_n ha
  exact ⟨ds, m, u, v, w, a, by simp [wayV], hC, hu', hv', hw', ha'⟩
theorem belowN_of {v w : List Int} (hv : okN v) (hw : okN w) (h : ∀ i, i < 4 → gI v i ≤ gI w i) : belowN v w = true := by
  obtain ⟨a, b, c, d, rfl, -, -, -, -⟩ := four hv
  obtain ⟨a', b', c', d', rfl, -, -, -, -⟩ := four hw
  have h0 := h 0 (by omega)
  have h1 := h 1 (by omega)
  have h2 := h 2 (by omega)
  have h3 := h 3 (by omega)
  simp only [gI, List.getD_cons_zero, List.getD_cons_succ] at h0 h1 h2 h3
  simp [belowN, h0, h1, h2, h3]
theorem gI_toL (ds : List Dm) (f t a : List Int) (n : Nat) {i : Nat} (hi : i < 4) : gI (toL ds f t a n) i = toJ ds f t a n i := by
  have : i = 0 ∨ i = 1 ∨ i = 2 ∨ i = 3 := by omega
  rcases this with rfl | rfl | rfl | rfl <;> rfl
theorem toP_eq {ds : List Dm} {m : Int} {f t a : List Int} (h : toOk ds m f t a = true) : toP ds m f t a = toL ds f t a ds.length := by
  unfold toP; rw [if_pos h]
theorem toP_no {ds : List Dm} {m : Int} {f t a : List Int} (h : toOk ds m f t a = false) : toP ds m f t a = zero4 := by
  unfold toP; rw [if_neg (by rw [h]; simp)]
theorem toJ_in {ds : List Dm} {m : Int} {f t a : List Int} (hf : okN f) (ht : okN t) (ha : okN a) (h : toOk ds m f t a = true) (i : Nat) : 0 ≤ toJ ds f t a ds.length i ∧ toJ ds f t a ds.length i ≤ 40 := by
  unfold toJ
  split
  · rename_i hi
    obtain ⟨_, h2, h3⟩ := lift_at hf ht ha h hi
    have := sizeD_range (gD ds i).S (gD ds i).U (gI t i)
    omega
  · omega
theorem toP_ok {ds : List Dm} {m : Int} {f t a : List Int} (hf : okN f) (ht : okN t) (ha : okN a) : okN (toP ds m f t a) := by
  unfold toP
  split
  · rename_i h
    have hj := toJ_in hf ht ha h
    exact okN4 ⟨(hj 0).1, by have := (hj 0).2; omega⟩ ⟨(hj 1).1, by have := (hj 1).2; omega⟩ ⟨(hj 2).1, by have := (hj 2).2; omega⟩ ⟨(hj 3).1, by have := (hj 3).2; omega⟩
  · exact ok_zero4
theorem toP_right {ds : List Dm} {m : Int} {f t a : List Int} (hf : okN f) (ht : okN t) (ha : okN a) (h : toOk ds m f t a = true) : rightC ds m t (toP ds m f t a) = true := by
  have h' := h
  unfold toOk at h'
  simp only [Bool.and_eq_true] at h'
  obtain ⟨h1, h2, h3⟩ := h'
  have g := rightC_good h1
  rw [toP_eq h]
  unfold rightC
  rw [g, Bool.true_and, List.all_eq_true]
  intro i hi
  rw [List.mem_range] at hi
  unfold rightAt
  rw [gI_toL ds f t a _ hi]
  unfold toJ
  by_cases c : i < ds.length
  · rw [if_pos c, if_pos c, decide_eq_true_eq]
    exact (lift_at hf ht ha h c).2.2
  · rw [if_neg c, if_neg c]
    have hb := ht.at hi
    unfold byte at hb
    have hg := (goodN_iff g ht).1 h2
    have hz : gI t i = 0 := by
      have hw0 := wOf_out c
      have : i = 0 ∨ i = 1 ∨ i = 2 ∨ i = 3 := by omega
      rcases this with rfl | rfl | rfl | rfl <;> omega
    rw [hz]; rfl
end Go.Proofs.Ytafjljlcdfccjaa
