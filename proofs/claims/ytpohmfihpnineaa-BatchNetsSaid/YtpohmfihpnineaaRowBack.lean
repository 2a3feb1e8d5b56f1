/- A row is read as it was written, whatever is behind it; cut off it is none; the row of any bytes, or none. -/
import Derived.Test.YtpohmfihpnineaaRowL
import Derived.Test.YtpohmfihpnineaaRowCom
set_option linter.unusedSimpArgs false
set_option linter.unusedVariables false
set_option maxHeartbeats 4000000
set_option maxRecDepth 100000
namespace Go.Proofs.Ytpohmfihpnineaa
open Go.Ev
end Go.Proofs.Ytpohmfihpnineaa
