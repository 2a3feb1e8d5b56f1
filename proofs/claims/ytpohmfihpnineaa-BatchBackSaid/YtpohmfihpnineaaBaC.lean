/- The base: a row comes, or goes. -/
import Derived.Test.YtpohmfihpnineaaBaB
set_option linter.unusedSimpArgs false
set_option linter.unusedVariables false
set_option maxHeartbeats 4000000
set_option maxRecDepth 100000
namespace Go.Proofs.Ytpohmfihpnineaa
open Go.Ev
def chC (del : Bool) (r : Rw) : List AV := .bool del :: rowC r
end Go.Proofs.Ytpohmfihpnineaa
