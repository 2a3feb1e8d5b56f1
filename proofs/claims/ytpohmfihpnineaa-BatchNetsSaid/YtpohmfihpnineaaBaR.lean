/- The document's base. -/
import Derived.Test.YtpohmfihpnineaaBaL
import Derived.Test.YtpohmfihpnineaaRowY
import Derived.Test.YtpohmfihpnineaaPgB
set_option linter.unusedSimpArgs false
set_option linter.unusedVariables false
set_option maxHeartbeats 16000000
set_option maxRecDepth 100000
namespace Go.Proofs.Ytpohmfihpnineaa
open Go.Ev
end Go.Proofs.Ytpohmfihpnineaa
