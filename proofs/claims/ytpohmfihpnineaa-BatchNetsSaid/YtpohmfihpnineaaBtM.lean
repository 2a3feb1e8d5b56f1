/- Batches in two parts: the plain law. -/
import Derived.Test.YtpohmfihpnineaaBtE
set_option linter.unusedSimpArgs false
set_option linter.unusedVariables false
set_option maxHeartbeats 4000000
set_option maxRecDepth 100000
namespace Go.Proofs.Ytpohmfihpnineaa
open Go.Ev
theorem nxtL_mass {ds : List Dm} {m : Int} {L : List Rw} {d : Bool} {r : Rw} (h : massG L = true) : massG (nxtL ds m L d r) = true := by
  unfold nxtL
  split
  · rename_i he
    split
    · by_cases hm : r ∈ L
      · have hp := List.perm_cons_erase hm
        rw [massG_perm hp] at h
        exact massG_tail h
      · rw [List.erase_of_not_mem hm]; exact h
    · rename_i hd
      unfold errL at he
      rw [if_neg hd] at he
      split at he
      · omega
      · split at he
        · assumption
        · omega
  · exact h
theorem run_all {ds : List Dm} {m : Int} (l : List Ch) (hl : okH l) : ∀ {L : List Rw}, (∀ x ∈ L, goodW ds m x = true ∧ okW x) → massG L = true → (∀ x ∈ runL ds m L l, goodW ds m x = true ∧ okW x) ∧ massG (runL ds m L l) = true := by
  induction l with
  | nil => intro L h1 h2; exact ⟨h1, h2⟩
  | cons c l ih => intro L h1 h2; exact ih (fun x hx => hl x (by simp [hx])) (nxtL_good h1 (hl c (by simp))) (nxtL_mass h2)
theorem giv_parts {ds : List Dm} {m : Int} {rows : List Rw} (h : givB ds m rows = true) : goodC ds m = true ∧ (∀ x ∈ rows, goodW ds m x = true) ∧ massG rows = true := by
  unfold givB at h
  simp only [Bool.and_eq_true, List.all_eq_true] at h
  exact ⟨h.1, h.2.1, h.2.2⟩
theorem fold_of {ds : List Dm} {m : Int} {rows : List Rw} {l : List Ch} (h1 : givB ds m rows = true) (h2 : (chkB ds m l).2 = 0) : foldB ds m rows l = (srt (goF ds m rows l 0).1, (goF ds m rows l 0).2) := by
  unfold foldB
  rw [if_neg (by rw [h1]; simp), if_neg (by rw [h2]; simp)]
end Go.Proofs.Ytpohmfihpnineaa
