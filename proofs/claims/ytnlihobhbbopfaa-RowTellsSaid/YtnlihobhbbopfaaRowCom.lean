/- What the laws of rows share. -/
import Derived.Test.YtnlihobhbbopfaaRowA
set_option linter.unusedSimpArgs false
set_option linter.unusedVariables false
set_option maxHeartbeats 4000000
set_option maxRecDepth 100000
namespace Go.Proofs.Ytnlihobhbbopfaa
open Go.Ev
theorem wakes_ev : cvF tab 10 [] = some (.bool true) := by
  have h : (evalFun tab 4000 10 [] []).map (fun p => match p.1 with | .bool b => b | _ => false) = some true := by kernel_rfl
  obtain ⟨⟨r, H1⟩, h1, h2⟩ := Option.map_eq_some_iff.1 h
  have h3 := cfT_of h1
  unfold cvF
  rw [h3]
  cases r <;> simp at h2
  subst h2
  rfl
end Go.Proofs.Ytnlihobhbbopfaa
