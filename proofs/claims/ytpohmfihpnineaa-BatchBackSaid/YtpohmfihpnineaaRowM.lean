/- The mass of rows: the document's; near the bound. -/
import Derived.Test.YtpohmfihpnineaaPgB
import Derived.Test.YtpohmfihpnineaaRowCom
set_option linter.unusedSimpArgs false
set_option linter.unusedVariables false
set_option maxHeartbeats 4000000
set_option maxRecDepth 100000
namespace Go.Proofs.Ytpohmfihpnineaa
open Go.Ev
end Go.Proofs.Ytpohmfihpnineaa
