/- Who owns what: slices and structs of the laws. -/
import Derived.Test.YtolecdkkecnkkaaM1
import Derived.Test.YtolecdkkecnkkaaM2
import Derived.Test.YtolecdkkecnkkaaD2
import Derived.Test.YtolecdkkecnkkaaC25
set_option linter.unusedVariables false
set_option linter.unusedSimpArgs false
set_option maxRecDepth 100000
set_option maxHeartbeats 4000000
namespace Go.BM
open Go.Proofs Go.RowKit
attribute [local irreducible] ACalls AWp aops qops optK optP cK gateA condK mops qcallK PCalls loadV fldV idxV lenV slV storeH binS
theorem nodeE_flat (ys : List TNode) : ∀ c ∈ nodeE.flat ys, flatV c = true := flatE_of (fun y c hc => by simp [nodeE, cellsV] at hc; (repeat' (first | (rcases hc with rfl | hc; · exact rfl) | (subst hc; exact rfl)))) ys
theorem choiceE_flat (ys : List TChoice) : ∀ c ∈ choiceE.flat ys, flatV c = true := flatE_of (fun y c hc => by simp [choiceE, cellsV] at hc; (repeat' (first | (rcases hc with rfl | hc; · exact rfl) | (subst hc; exact rfl)))) ys
theorem signE_flat (ys : List TSign) : ∀ c ∈ signE.flat ys, flatV c = true := flatE_of (fun y c hc => by simp [signE, cellsV] at hc; (repeat' (first | (rcases hc with rfl | hc; · exact rfl) | (subst hc; exact rfl)))) ys
end Go.BM
