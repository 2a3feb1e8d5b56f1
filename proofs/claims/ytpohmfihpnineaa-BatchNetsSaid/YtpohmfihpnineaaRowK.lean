/- Rows as bytes, and back. -/
import Derived.Test.YtpohmfihpnineaaPgA
import Derived.Test.YtpohmfihpnineaaPgC
set_option linter.unusedSimpArgs false
set_option linter.unusedVariables false
set_option maxHeartbeats 4000000
set_option maxRecDepth 100000
namespace Go.Proofs.Ytpohmfihpnineaa
open Go.Ev
end Go.Proofs.Ytpohmfihpnineaa
