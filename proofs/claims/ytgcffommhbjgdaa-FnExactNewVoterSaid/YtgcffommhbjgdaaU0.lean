/- Strings: how many bytes they have together. -/
import Derived.Test.YtgcffommhbjgdaaC24
import Derived.Test.YtgcffommhbjgdaaFacts
set_option linter.unusedVariables false
set_option linter.unusedSimpArgs false
set_option maxRecDepth 100000
set_option maxHeartbeats 4000000
namespace Go.BM
open Go.Proofs Go.RowKit
attribute [local irreducible] ACalls AWp aops qops optK optP cK gateA condK mops qcallK PCalls loadV fldV idxV lenV slV storeH binS
def nStrS (xs : List ByteArray) : Nat := xs.length + (xs.map ByteArray.size).sum
theorem nStrS_len (xs : List ByteArray) : xs.length ≤ nStrS xs := Nat.le_add_right _ _
end Go.BM
