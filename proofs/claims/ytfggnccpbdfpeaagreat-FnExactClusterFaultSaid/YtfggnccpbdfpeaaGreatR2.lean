/- What greater arguments are, as data. -/
import Derived.Test.YtfggnccpbdfpeaaGreatR1
import Derived.Test.YtfggnccpbdfpeaaGreatT2
set_option linter.unusedVariables false
set_option linter.unusedSimpArgs false
set_option maxRecDepth 100000
set_option maxHeartbeats 4000000
namespace Go.BM
open Go.Proofs Go.RowKit
attribute [local irreducible] ACalls AWp aops qops optK optP cK gateA condK mops qcallK PCalls loadV fldV idxV lenV slV storeH binS
theorem ab_Voter {n : Nat} {cs : List Value} (h : Ab Tryz.prog (n + 5) 70 cs) : ∃ y : TVoter, cs = cellsV (voterE.val y) ∧ y.choices.length ≤ 9223372036854775807 := by
  obtain ⟨p0, q0, rfl, h0, p1, q1, rfl, h1, p2, q2, rfl, h2, rfl⟩ := Ab.str Tryz.underlying70 h
  obtain ⟨key, rfl, _⟩ := Ab.int Tryz.underlying2 h0
  obtain ⟨last, rfl, _⟩ := Ab.int Tryz.underlying2 h1
  obtain ⟨ch, rfl, hn⟩ := ab_ChoiceS h2
  exact ⟨⟨key, last, ch⟩, rfl, hn⟩
end Go.BM
