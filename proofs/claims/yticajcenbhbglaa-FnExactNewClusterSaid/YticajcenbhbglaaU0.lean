/- Strings: how many bytes they have together. -/
import Derived.Test.YticajcenbhbglaaC25
import Derived.Test.YticajcenbhbglaaD2
set_option linter.unusedVariables false
set_option linter.unusedSimpArgs false
set_option maxRecDepth 100000
set_option maxHeartbeats 4000000
namespace Go.BM
open Go.Proofs Go.RowKit
attribute [local irreducible] ACalls AWp aops qops optK optP cK gateA condK mops qcallK PCalls loadV fldV idxV lenV slV storeH binS
def nStrS (xs : List ByteArray) : Nat := xs.length + (xs.map ByteArray.size).sum
theorem nStrS_len (xs : List ByteArray) : xs.length ≤ nStrS xs := Nat.le_add_right _ _
/-- What is left of k behind strings; -1 if it is less than nothing. -/
def szSt : List ByteArray → Int → Int
  | [], k => k
  | x :: l, k => if k - x.size < 0 then -1 else szSt l (k - x.size)
theorem szSt_eq : ∀ (xs : List ByteArray) (k : Int), 0 ≤ k → szSt xs k = szI (xs.map ByteArray.size).sum k
  | [], k, h => by simp [szSt, szI]; omega
  | x :: l, k, h => by
    unfold szSt
    rw [List.map_cons, List.sum_cons]
    split
    · unfold szI; split <;> omega
    · rw [szSt_eq l _ (by omega)]
      unfold szI
      (repeat' split) <;> omega
theorem szSt_step (xs : List ByteArray) (j : Nat) (hj : j < xs.length) (k : Int) : szSt (xs.drop j) k = if k - xs[j].size < 0 then -1 else szSt (xs.drop (j + 1)) (k - xs[j].size) := by
  rw [List.drop_eq_getElem_cons hj]
  rfl
end Go.BM
