/- What structs that hold slices are, as arguments. -/
import Derived.Test.YtfggnccpbdfpeaaR1
import Derived.Test.YtfggnccpbdfpeaaU5
set_option linter.unusedVariables false
set_option linter.unusedSimpArgs false
set_option maxRecDepth 100000
set_option maxHeartbeats 4000000
namespace Go.BM
open Go.Proofs Go.RowKit
attribute [local irreducible] ACalls AWp aops qops optK optP cK gateA condK mops qcallK PCalls loadV fldV idxV lenV slV storeH binS
theorem ab_Rule {n : Nat} {cs : List Value} (h : Ab Try.prog (n + 3) 55 cs) : ∃ y : TRule, cs = cellsV (ruleE.val y) ∧ limRule y := by
  obtain ⟨p0, q0, rfl, h0, p1, q1, rfl, h1, p2, q2, rfl, h2, rfl⟩ := Ab.str Try.underlying55 h
  obtain ⟨y0, rfl, l0, _⟩ := ab_Int64S h0
  obtain ⟨y1, rfl, _⟩ := Ab.int Try.underlying2 h1
  obtain ⟨y2, rfl, _⟩ := Ab.int Try.underlying2 h2
  exact ⟨⟨y0, y1, y2⟩, rfl, l0⟩
end Go.BM
