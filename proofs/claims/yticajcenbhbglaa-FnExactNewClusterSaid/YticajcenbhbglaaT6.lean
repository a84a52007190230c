/- Trees: what is above, paths, forks. -/
import Derived.Test.YticajcenbhbglaaT5
import Derived.Test.YticajcenbhbglaaC25
set_option linter.unusedVariables false
set_option linter.unusedSimpArgs false
set_option maxRecDepth 100000
set_option maxHeartbeats 4000000
namespace Go.BM
open Go.Proofs Go.RowKit
attribute [local irreducible] ACalls AWp aops qops optK optP cK gateA condK mops qcallK PCalls loadV fldV idxV lenV slV storeH binS
theorem above_step {xs : List TNode} (R : Right xs) (a cur : Int) (h : 0 ≤ ndAt xs cur) : (path xs cur).any (fun x => a == x) = (a == cur || (path xs (upId xs cur)).any fun x => a == x) := by
  rw [R.path_some h]
  rfl
def isAboveT (xs : List TNode) (a b : Int) : Bool := treeFault xs == 0 && above xs a b
def relatedF (xs : List TNode) (a b : Int) : Bool := treeFault xs == 0 && relatedT xs a b
end Go.BM
