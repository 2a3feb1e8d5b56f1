/- The base: the mass with a row's more, or less. -/
import Derived.Test.YtpohmfihpnineaaBaA
set_option linter.unusedSimpArgs false
set_option linter.unusedVariables false
set_option maxHeartbeats 4000000
set_option maxRecDepth 100000
namespace Go.Proofs.Ytpohmfihpnineaa
open Go.Ev
structure okM (S : Bs) : Prop where
  x0 : 0 ≤ S.mx
  x1 : S.mx ≤ MM
  y0 : 0 ≤ S.my
  y1 : S.my ≤ MM
end Go.Proofs.Ytpohmfihpnineaa
