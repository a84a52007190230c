/- Who owns what: slices and structs of the laws. -/
import Derived.Test.YtfggnccpbdfpeaaGreatM1
import Derived.Test.YtfggnccpbdfpeaaGreatM2
import Derived.Test.YtfggnccpbdfpeaaGreatD2
import Derived.Test.YtfggnccpbdfpeaaGreatC25
set_option linter.unusedVariables false
set_option linter.unusedSimpArgs false
set_option maxRecDepth 100000
set_option maxHeartbeats 4000000
namespace Go.BM
open Go.Proofs Go.RowKit
attribute [local irreducible] ACalls AWp aops qops optK optP cK gateA condK mops qcallK PCalls loadV fldV idxV lenV slV storeH binS
theorem own_toInt64S (xs : List Int) (hn : xs.length ≤ 1048576) : NCalls Tryz.prog 17 [islE intE xs] (islE intE xs) :=
  (laws_toInt64S_own [] xs hn).mono fun d H' ⟨h1, h2⟩ => by
    subst h1 h2
    exact OwnL.sl1 (intE_flat xs)
theorem nodeE_flat (ys : List TNode) : ∀ c ∈ nodeE.flat ys, flatV c = true := flatE_of (fun y c hc => by simp [nodeE, cellsV] at hc; (repeat' (first | (rcases hc with rfl | hc; · exact rfl) | (subst hc; exact rfl)))) ys
theorem own_toNodeS (xs : List TNode) (hn : xs.length ≤ 1048576) : NCalls Tryz.prog 18 [islE nodeE xs] (islE nodeE xs) :=
  (laws_toNodeS_own [] xs hn).mono fun d H' ⟨h1, h2⟩ => by
    subst h1 h2
    exact OwnL.sl1 (nodeE_flat xs)
theorem choiceE_flat (ys : List TChoice) : ∀ c ∈ choiceE.flat ys, flatV c = true := flatE_of (fun y c hc => by simp [choiceE, cellsV] at hc; (repeat' (first | (rcases hc with rfl | hc; · exact rfl) | (subst hc; exact rfl)))) ys
theorem own_toChoiceS (xs : List TChoice) (hn : xs.length ≤ 1048576) : NCalls Tryz.prog 71 [islE choiceE xs] (islE choiceE xs) :=
  (laws_toChoiceS_own [] xs hn).mono fun d H' ⟨h1, h2⟩ => by
    subst h1 h2
    exact OwnL.sl1 (choiceE_flat xs)
theorem signE_flat (ys : List TSign) : ∀ c ∈ signE.flat ys, flatV c = true := flatE_of (fun y c hc => by simp [signE, cellsV] at hc; (repeat' (first | (rcases hc with rfl | hc; · exact rfl) | (subst hc; exact rfl)))) ys
end Go.BM
