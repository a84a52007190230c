/- Who owns what: slices and structs of the laws. -/
import Derived.Test.YtolecdkkecnkkaaU3
set_option linter.unusedVariables false
set_option linter.unusedSimpArgs false
set_option maxRecDepth 100000
set_option maxHeartbeats 4000000
namespace Go.BM
open Go.Proofs Go.RowKit
attribute [local irreducible] ACalls AWp aops qops optK optP cK gateA condK mops qcallK PCalls loadV fldV idxV lenV slV storeH binS
def nLedgerResult (x : TLedgerResult) : Nat := nLedger x.ledger
def mLedgerResult (x : TLedgerResult) : Nat := mLedger x.ledger
def limLedgerResult (x : TLedgerResult) : Prop := limLedger x.ledger
end Go.BM
