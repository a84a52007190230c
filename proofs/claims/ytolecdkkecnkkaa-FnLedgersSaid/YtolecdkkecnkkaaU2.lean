/- Who owns what: slices and structs of the laws. -/
import Derived.Test.YtolecdkkecnkkaaU1
import Derived.Test.YtolecdkkecnkkaaU0
import Derived.Test.YtolecdkkecnkkaaD1
set_option linter.unusedVariables false
set_option linter.unusedSimpArgs false
set_option maxRecDepth 100000
set_option maxHeartbeats 4000000
namespace Go.BM
open Go.Proofs Go.RowKit
attribute [local irreducible] ACalls AWp aops qops optK optP cK gateA condK mops qcallK PCalls loadV fldV idxV lenV slV storeH binS
def nQuorum (x : TQuorum) : Nat := x.keys.length
def mQuorum (x : TQuorum) : Nat := x.keys.length
def limQuorum (x : TQuorum) : Prop := x.keys.length ≤ 9223372036854775807
def nVoter (x : TVoter) : Nat := x.choices.length
def mVoter (x : TVoter) : Nat := x.choices.length * 3
def limVoter (x : TVoter) : Prop := x.choices.length ≤ 9223372036854775807
def nIntsResult (x : TIntsResult) : Nat := x.list.length
def mIntsResult (x : TIntsResult) : Nat := x.list.length
def limIntsResult (x : TIntsResult) : Prop := x.list.length ≤ 9223372036854775807
def nVoterResult (x : TVoterResult) : Nat := nVoter x.voter
def mVoterResult (x : TVoterResult) : Nat := mVoter x.voter
def limVoterResult (x : TVoterResult) : Prop := limVoter x.voter
def nQuorumResult (x : TQuorumResult) : Nat := nQuorum x.quorum
def mQuorumResult (x : TQuorumResult) : Nat := mQuorum x.quorum
def limQuorumResult (x : TQuorumResult) : Prop := limQuorum x.quorum
def nTreeResult (x : TTreeResult) : Nat := x.tree.length
def mTreeResult (x : TTreeResult) : Nat := x.tree.length * 3
def limTreeResult (x : TTreeResult) : Prop := x.tree.length ≤ 9223372036854775807
def nIntResult (x : TIntResult) : Nat := 0
def mIntResult (x : TIntResult) : Nat := 0
def limIntResult (x : TIntResult) : Prop := True
end Go.BM
