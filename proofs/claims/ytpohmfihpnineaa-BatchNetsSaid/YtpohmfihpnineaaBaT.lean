/- The base's laws: what is told of a row. -/
import Derived.Test.YtpohmfihpnineaaBaS
set_option linter.unusedSimpArgs false
set_option linter.unusedVariables false
set_option maxHeartbeats 16000000
set_option maxRecDepth 100000
namespace Go.Proofs.Ytpohmfihpnineaa
open Go.Ev
end Go.Proofs.Ytpohmfihpnineaa
