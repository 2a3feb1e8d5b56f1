/- The base's laws: the chapter's example, and what is shared. -/
import Derived.Test.YtmnafjgkhhdidaaBaF
set_option linter.unusedSimpArgs false
set_option linter.unusedVariables false
set_option maxHeartbeats 16000000
set_option maxRecDepth 100000
namespace Go.Proofs.Ytmnafjgkhhdidaa
open Go.Ev
theorem wake_ev : cvF tabB 9 [] = some (.bool true) := by
  have h : (evalFun tabB 4000 9 [] []).map (fun p => match p.1 with | .bool b => b | _ => false) = some true := by kernel_rfl
  obtain ⟨⟨r, H1⟩, h1, h2⟩ := Option.map_eq_some_iff.1 h
  have h3 := cfT_of h1
  unfold cvF
  rw [h3]
  cases r <;> simp at h2
  subst h2
  rfl
end Go.Proofs.Ytmnafjgkhhdidaa
