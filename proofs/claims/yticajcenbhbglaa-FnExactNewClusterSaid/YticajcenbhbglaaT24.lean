/- CastFor: both sides. -/
import Derived.Test.YticajcenbhbglaaT3
import Derived.Test.YticajcenbhbglaaT6
import Derived.Test.YticajcenbhbglaaG4
import Derived.Test.YticajcenbhbglaaU2
set_option linter.unusedVariables false
set_option linter.unusedSimpArgs false
set_option maxRecDepth 100000
set_option maxHeartbeats 4000000
namespace Go.BM
open Go.Proofs Go.RowKit
attribute [local irreducible] ACalls AWp aops qops optK optP cK gateA condK mops qcallK PCalls loadV fldV idxV lenV slV storeH binS
def castF (xs : List TNode) (v : TVoter) (id : Int) : TVoterResult :=
  if decide (ndAt xs id < 0) then ⟨4, ⟨0, 0, 0, ⟨0, 0⟩, 0⟩, ⟨0, 0, []⟩⟩ else if (!(v.last == 0) && !above xs v.last id) || v.last == id then ⟨10, ⟨0, 0, 0, ⟨0, 0⟩, 0⟩, ⟨0, 0, []⟩⟩ else ⟨0, ⟨v.key, 1, id, ⟨0, 0⟩, 0⟩, ⟨v.key, id, v.choices⟩⟩
def castForF (xs : List TNode) (v : TVoter) (id : Int) : TVoterResult :=
  if treeFault xs == 0 then (if voterFault v == 0 then castF xs v id else ⟨voterFault v, ⟨0, 0, 0, ⟨0, 0⟩, 0⟩, ⟨0, 0, []⟩⟩) else ⟨treeFault xs, ⟨0, 0, 0, ⟨0, 0⟩, 0⟩, ⟨0, 0, []⟩⟩
theorem nR_CastFor (xs : List TNode) (v : TVoter) (id : Int) (hn : xs.length ≤ 1048576) (hv : nVoter v ≤ 1048576) : nVoterResult (castForF xs v id) ≤ 1048576 := by
  unfold castForF castF
  repeat' split
  all_goals simp [nVoterResult, nVoter] at *
  all_goals omega
end Go.BM
