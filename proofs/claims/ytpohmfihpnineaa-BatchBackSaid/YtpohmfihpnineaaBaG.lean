/- The base as a bag of rows: plain law. -/
import Derived.Test.YtpohmfihpnineaaBaF
import Derived.Test.YtpohmfihpnineaaRowM
set_option linter.unusedSimpArgs false
set_option linter.unusedVariables false
set_option maxHeartbeats 4000000
set_option maxRecDepth 100000
namespace Go.Proofs.Ytpohmfihpnineaa
open Go.Ev
theorem sum_perm (f : Rw → Int) {a b : List Rw} (h : a.Perm b) : (a.map f).sum = (b.map f).sum := by
  induction h with
  | nil => rfl
  | cons x h ih => simp [ih]
  | swap x y l => simp; omega
  | trans h1 h2 ih1 ih2 => exact ih1.trans ih2
theorem sumX_perm {a b : List Rw} (h : a.Perm b) : sumX a = sumX b := sum_perm _ h
theorem sumY_perm {a b : List Rw} (h : a.Perm b) : sumY a = sumY b := sum_perm _ h
theorem sumX_nn (l : List Rw) : 0 ≤ sumX l := sum_nn _ (fun r => absI_nn r.x) l
theorem sumY_nn (l : List Rw) : 0 ≤ sumY l := sum_nn _ (fun r => absI_nn r.y) l
structure IB (S : Bs) : Prop where
  nd : (S.es.map (·.2.2)).Nodup
  lt : ∀ e ∈ S.es, e.2.2 < S.clk
  ke : (S.es.map (·.1)).Nodup
  po : ∀ e ∈ S.es, 1 ≤ e.2.1
  ro : ∀ e ∈ S.es, okW e.1
  n : S.n = (expand S.es).length
  mx : S.mx = sumX (expand S.es)
  my : S.my = sumY (expand S.es)
  g : massG (expand S.es) = true
theorem IB.toM {S : Bs} (h : IB S) : okM S := by
  have g := h.g
  unfold massG at g
  simp only [Bool.and_eq_true, decide_eq_true_eq] at g
  exact ⟨by rw [h.mx]; exact sumX_nn _, by rw [h.mx]; exact g.1, by rw [h.my]; exact sumY_nn _, by rw [h.my]; exact g.2⟩
end Go.Proofs.Ytpohmfihpnineaa
