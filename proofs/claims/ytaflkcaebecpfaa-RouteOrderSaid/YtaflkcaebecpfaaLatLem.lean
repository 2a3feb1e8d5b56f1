/- Nodes, in plain words: Meet, Join, the whole, how many places. -/
import Derived.Test.YtaflkcaebecpfaaPlaces
set_option linter.unusedSimpArgs false
set_option linter.unusedVariables false
set_option maxHeartbeats 4000000
namespace Go.Proofs.Ytaflkcaebecpfaa
open Go.Ev
theorem prodTo_mul (f g : Nat → Int) : ∀ n, prodTo (fun i => f i * g i) n = prodTo f n * prodTo g n
  | 0 => by simp [prodTo]
  | n + 1 => by
    simp only [prodTo]
    rw [prodTo_mul f g n]
    generalize prodTo f n = a; generalize prodTo g n = b; generalize f n = c; generalize g n = d
    rw [Int.mul_assoc, Int.mul_assoc, ← Int.mul_assoc b c d, ← Int.mul_assoc c b d, Int.mul_comm b c]
theorem prodTo_congr {f g : Nat → Int} : ∀ {n : Nat}, (∀ i, i < n → f i = g i) → prodTo f n = prodTo g n
  | 0, _ => rfl
  | n + 1, h => by
    simp only [prodTo]
    rw [prodTo_congr (f := f) (g := g) fun i hi => h i (by omega), h n (by omega)]
theorem prodTo_one (f : Nat → Int) : ∀ {n : Nat}, (∀ i, i < n → f i = 1) → prodTo f n = 1
  | 0, _ => rfl
  | n + 1, h => by
    simp only [prodTo]
    rw [prodTo_one f fun i hi => h i (by omega), h n (by omega)]; rfl
theorem gI_meet {v w : List Int} (hv : okN v) (hw : okN w) {i : Nat} (hi : i < 4) : gI (meetN v w) i = min (gI v i) (gI w i) := by
  obtain ⟨a, b, c, d, rfl, -, -, -, -⟩ := four hv
  obtain ⟨a', b', c', d', rfl, -, -, -, -⟩ := four hw
  have : i = 0 ∨ i = 1 ∨ i = 2 ∨ i = 3 := by omega
  rcases this with rfl | rfl | rfl | rfl <;> rfl
theorem gI_join {v w : List Int} (hv : okN v) (hw : okN w) {i : Nat} (hi : i < 4) : gI (joinN v w) i = max (gI v i) (gI w i) := by
  obtain ⟨a, b, c, d, rfl, -, -, -, -⟩ := four hv
  obtain ⟨a', b', c', d', rfl, -, -, -, -⟩ := four hw
  have : i = 0 ∨ i = 1 ∨ i = 2 ∨ i = 3 := by omega
  rcases this with rfl | rfl | rfl | rfl <;> rfl
theorem ok_meet {v w : List Int} (hv : okN v) (hw : okN w) : okN (meetN v w) := by
  obtain ⟨a, b, c, d, rfl, ha, hb, hc, hd⟩ := four hv
  obtain ⟨a', b', c', d', rfl, ha', hb', hc', hd'⟩ := four hw
  unfold byte at *
  exact okN4 ⟨by omega, by omega⟩ ⟨by omega, by omega⟩ ⟨by omega, by omega⟩ ⟨by omega, by omega⟩
theorem ok_join {v w : List Int} (hv : okN v) (hw : okN w) : okN (joinN v w) := by
  obtain ⟨a, b, c, d, rfl, ha, hb, hc, hd⟩ := four hv
  obtain ⟨a', b', c', d', rfl, ha', hb', hc', hd'⟩ := four hw
  unfold byte at *
  exact okN4 ⟨by omega, by omega⟩ ⟨by omega, by omega⟩ ⟨by omega, by omega⟩ ⟨by omega, by omega⟩
theorem good_meet {ds : List Dm} {m : Int} {v w : List Int} (gv : goodN ds m v = true) (gw : goodN ds m w = true) (hv : okN v) (hw : okN w) : goodN ds m (meetN v w) = true := by
  have gc := goodN_good gv
  have h1 := (goodN_iff gc hv).1 gv
  have h2 := (goodN_iff gc hw).1 gw
  rw [goodN_iff gc (ok_meet hv hw), gI_meet hv hw (by omega), gI_meet hv hw (by omega), gI_meet hv hw (by omega), gI_meet hv hw (by omega)]
  omega
theorem good_join {ds : List Dm} {m : Int} {v w : List Int} (gv : goodN ds m v = true) (gw : goodN ds m w = true) (hv : okN v) (hw : okN w) : goodN ds m (joinN v w) = true := by
  have gc := goodN_good gv
  have h1 := (goodN_iff gc hv).1 gv
  have h2 := (goodN_iff gc hw).1 gw
  rw [goodN_iff gc (ok_join hv hw), gI_join hv hw (by omega), gI_join hv hw (by omega), gI_join hv hw (by omega), gI_join hv hw (by omega)]
  omega
theorem cost_meets {ds : List Dm} {m : Int} {v w : List Int} (gv : goodN ds m v = true) (gw : goodN ds m w = true) (hv : okN v) (hw : okN w) :
    costC ds m (meetN v w) * costC ds m (joinN v w) = costC ds m v * costC ds m w := by
  have hl := goodC_len (goodN_good gv)
  rw [costC_eq (good_meet gv gw hv hw), costC_eq (good_join gv gw hv hw), costC_eq gv, costC_eq gw, ← prodTo_mul, ← prodTo_mul]
  refine prodTo_congr fun i hi => ?_
  unfold szN
  rw [gI_meet hv hw (by omega), gI_join hv hw (by omega)]
  by_cases h : gI v i ≤ gI w i
  · rw [show min (gI v i) (gI w i) = gI v i from by omega, show max (gI v i) (gI w i) = gI w i from by omega]
  · rw [show min (gI v i) (gI w i) = gI w i from by omega, show max (gI v i) (gI w i) = gI v i from by omega, Int.mul_comm]
theorem ok_whole (ds : List Dm) (m : Int) : okN (wholeN ds m) := by
  unfold wholeN
  by_cases g : goodC ds m = true
  · rw [if_pos g]
    have b0 := wOf_le g 0
    have b1 := wOf_le g 1
    have b2 := wOf_le g 2
    have b3 := wOf_le g 3
    exact okN4 ⟨by omega, by omega⟩ ⟨by omega, by omega⟩ ⟨by omega, by omega⟩ ⟨by omega, by omega⟩
  · rw [if_neg g]; exact ok_zero4
theorem good_whole {ds : List Dm} {m : Int} (g : goodC ds m = true) : goodN ds m (wholeN ds m) = true := by
  rw [goodN_iff g (ok_whole ds m)]
  unfold wholeN
  rw [if_pos g]
  simp only [gI, List.getD_cons_zero, List.getD_cons_succ]
  omega
theorem cost_whole {ds : List Dm} {m : Int} (g : goodC ds m = true) : costC ds m (wholeN ds m) = 1 := by
  have hl := goodC_len g
  rw [costC_eq (good_whole g)]
  refine prodTo_one _ fun i hi => ?_
  have hw : gI (wholeN ds m) i = ((gD ds i).S.length : Int) := by
    have e : (wOf ds i : Int) = ((gD ds i).S.length : Int) := by unfold wOf; rw [if_pos hi]
    rw [← e]
    unfold wholeN
    rw [if_pos g]
    have : i = 0 ∨ i = 1 ∨ i = 2 ∨ i = 3 := by omega
    rcases this with rfl | rfl | rfl | rfl <;> rfl
  unfold szN
  rw [hw]
  exact sizeD_end (goodC_at g hi)
end Go.Proofs.Ytaflkcaebecpfaa
