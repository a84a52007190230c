/- Who owns what: slices and structs of the laws. -/
import Derived.Test.YtolecdkkecnkkaaU0
import Derived.Test.YtolecdkkecnkkaaD1
import Derived.Test.YtolecdkkecnkkaaU1
import Derived.Test.YtolecdkkecnkkaaC25
set_option linter.unusedVariables false
set_option linter.unusedSimpArgs false
set_option maxRecDepth 100000
set_option maxHeartbeats 4000000
namespace Go.BM
open Go.Proofs Go.RowKit
attribute [local irreducible] ACalls AWp aops qops optK optP cK gateA condK mops qcallK PCalls loadV fldV idxV lenV slV storeH binS
def nLedger (x : TLedger) : Nat := nStrS x.texts + x.signs.length
def mLedger (x : TLedger) : Nat := x.texts.length + x.signs.length * 2
def limLedger (x : TLedger) : Prop := (x.texts.length ≤ 9223372036854775807 ∧ ∀ y ∈ x.texts, y.size ≤ maxLen) ∧ x.signs.length ≤ 9223372036854775807
def nTextResult (x : TTextResult) : Nat := 0
def mTextResult (x : TTextResult) : Nat := 0
def limTextResult (x : TTextResult) : Prop := True
theorem nLedger_texts {l : TLedger} (h : nLedger l ≤ 1048576) : l.texts.length ≤ 1048576 := by have := nStrS_len l.texts; unfold nLedger at h; omega
theorem nLedger_signs {l : TLedger} (h : nLedger l ≤ 1048576) : l.signs.length ≤ 1048576 := by unfold nLedger at h; omega
end Go.BM
