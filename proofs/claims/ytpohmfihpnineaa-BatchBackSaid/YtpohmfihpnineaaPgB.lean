/- Plain texts put together: RowV Until RowW HGoodRef CatRef RowX RowB Light. -/
import Derived.Test.YtpohmfihpnineaaPgA
section
set_option linter.unusedSimpArgs false
set_option linter.unusedVariables false
set_option maxHeartbeats 4000000
set_option maxRecDepth 100000
namespace Go.Proofs.Ytpohmfihpnineaa
open Go.Ev
end Go.Proofs.Ytpohmfihpnineaa
end
section
set_option linter.unusedSimpArgs false
set_option linter.unusedVariables false
set_option maxHeartbeats 4000000
namespace Go.Proofs.Ytpohmfihpnineaa
open Go.Ev
end Go.Proofs.Ytpohmfihpnineaa
end
section
set_option linter.unusedSimpArgs false
set_option linter.unusedVariables false
set_option maxHeartbeats 4000000
set_option maxRecDepth 100000
namespace Go.Proofs.Ytpohmfihpnineaa
open Go.Ev
end Go.Proofs.Ytpohmfihpnineaa
end
section
set_option linter.unusedSimpArgs false
set_option linter.unusedVariables false
set_option maxHeartbeats 4000000
namespace Go.Proofs.Ytpohmfihpnineaa
open Go.Ev
end Go.Proofs.Ytpohmfihpnineaa
end
section
set_option linter.unusedSimpArgs false
set_option linter.unusedVariables false
set_option maxHeartbeats 4000000
set_option maxRecDepth 100000
namespace Go.Proofs.Ytpohmfihpnineaa
open Go.Ev
end Go.Proofs.Ytpohmfihpnineaa
end
section
set_option linter.unusedSimpArgs false
set_option linter.unusedVariables false
set_option maxHeartbeats 4000000
set_option maxRecDepth 100000
namespace Go.Proofs.Ytpohmfihpnineaa
open Go.Ev
def Rw.at (r : Rw) : List Int := [r.a, r.b, r.c, r.d]
end Go.Proofs.Ytpohmfihpnineaa
end
section
set_option linter.unusedSimpArgs false
set_option linter.unusedVariables false
set_option maxHeartbeats 4000000
set_option maxRecDepth 100000
namespace Go.Proofs.Ytpohmfihpnineaa
open Go.Ev
def absI (v : Int) : Int := if v < 0 then -v else v
theorem absI_nn (v : Int) : 0 ≤ absI v := by unfold absI; split <;> omega
def sumX (l : List Rw) : Int := (l.map fun r => absI r.x).sum
def sumY (l : List Rw) : Int := (l.map fun r => absI r.y).sum
theorem sum_nn (f : Rw → Int) (hf : ∀ r, 0 ≤ f r) : ∀ (l : List Rw), 0 ≤ (l.map f).sum
  | [] => by simp
  | r :: l => by
    have := sum_nn f hf l
    have := hf r
    simp only [List.map_cons, List.sum_cons]
    omega
def MM : Int := 2305843009213693952
def massG (l : List Rw) : Bool := decide (sumX l ≤ MM) && decide (sumY l ≤ MM)
end Go.Proofs.Ytpohmfihpnineaa
end
section
set_option linter.unusedSimpArgs false
set_option linter.unusedVariables false
set_option maxHeartbeats 4000000
namespace Go.Proofs.Ytpohmfihpnineaa
open Go.Ev
end Go.Proofs.Ytpohmfihpnineaa
end
