/- What quorums are, as arguments. -/
import Derived.Test.YticajcenbhbglaaR1
import Derived.Test.YticajcenbhbglaaC25
set_option linter.unusedVariables false
set_option linter.unusedSimpArgs false
set_option maxRecDepth 100000
set_option maxHeartbeats 4000000
namespace Go.BM
open Go.Proofs Go.RowKit
attribute [local irreducible] ACalls AWp aops qops optK optP cK gateA condK mops qcallK PCalls loadV fldV idxV lenV slV storeH binS
theorem ab_Quorum {n : Nat} {cs : List Value} (h : Ab Try.prog (n + 5) 24 cs) : ∃ y : TQuorum, cs = cellsV (quorumE.val y) ∧ y.keys.length ≤ 9223372036854775807 := by
  obtain ⟨p0, q0, rfl, h0, p1, q1, rfl, h1, rfl⟩ := Ab.str Try.underlying24 h
  obtain ⟨ks, rfl, hn, _⟩ := ab_Int64S h0
  obtain ⟨need, rfl, _⟩ := Ab.int Try.underlying2 h1
  exact ⟨⟨ks, need⟩, rfl, hn⟩
end Go.BM
