/- AddNode: both sides. -/
import Derived.Test.YtolecdkkecnkkaaT5
import Derived.Test.YtolecdkkecnkkaaG4
import Derived.Test.YtolecdkkecnkkaaU2
set_option linter.unusedVariables false
set_option linter.unusedSimpArgs false
set_option maxRecDepth 100000
set_option maxHeartbeats 4000000
namespace Go.BM
open Go.Proofs Go.RowKit
attribute [local irreducible] ACalls AWp aops qops optK optP cK gateA condK mops qcallK PCalls loadV fldV idxV lenV slV storeH binS
def addC (xs : List TNode) (n : TNode) : Int := if nodeFault xs n == 0 then (if decide (60 ≤ xs.length) then 2 else 0) else nodeFault xs n
def addL (xs : List TNode) (n : TNode) : List TNode := if addC xs n == 0 then xs ++ [n] else []
def addNodeF (xs : List TNode) (n : TNode) : TTreeResult := if treeFault xs == 0 then ⟨addC xs n, addL xs n⟩ else ⟨treeFault xs, []⟩
theorem treeFault_len {xs : List TNode} (h : treeFault xs = 0) : xs.length ≤ 60 := by
  unfold treeFault at h
  by_cases hx : (60 : Int) < (xs.length : Int)
  · simp [hx] at h
  · omega
theorem nR_AddNode (xs : List TNode) (n : TNode) (hn : xs.length ≤ 1048576) : nTreeResult (addNodeF xs n) ≤ 1048576 := by
  unfold nTreeResult addNodeF
  cases hc : (treeFault xs == 0) with
  | false => simp
  | true =>
    have := treeFault_len (eq_of_beq hc)
    simp only [if_true, addL]
    split <;> simp
    omega
end Go.BM
