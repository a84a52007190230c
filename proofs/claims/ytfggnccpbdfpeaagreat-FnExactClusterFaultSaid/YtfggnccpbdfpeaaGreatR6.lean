/- What clusters are, as arguments. -/
import Derived.Test.YtfggnccpbdfpeaaGreatR2
import Derived.Test.YtfggnccpbdfpeaaGreatR3
import Derived.Test.YtfggnccpbdfpeaaGreatT50
set_option linter.unusedVariables false
set_option linter.unusedSimpArgs false
set_option maxRecDepth 100000
set_option maxHeartbeats 4000000
namespace Go.BM
open Go.Proofs Go.RowKit
attribute [local irreducible] ACalls AWp aops qops optK optP cK gateA condK mops qcallK PCalls loadV fldV idxV lenV slV storeH binS
theorem ab_VoterS {n : Nat} {cs : List Value} (h : Ab Tryz.prog (n + 6) 26 cs) : ∃ ys : List TVoter, cs = [islE voterE ys] ∧ ys.length ≤ 9223372036854775807 ∧ ∀ y ∈ ys, y.choices.length ≤ 9223372036854775807 := by
  obtain ⟨ys, rfl, hn, hq⟩ := Ab.slE (E := voterE) (Q := fun y => y.choices.length ≤ 9223372036854775807) Tryz.underlying26 (fun x hx => by obtain ⟨y, rfl, hy⟩ := ab_Voter hx; exact ⟨y, rfl, hy⟩) h
  exact ⟨ys, rfl, hn, hq⟩
theorem ab_Int64SS {n : Nat} {cs : List Value} (h : Ab Tryz.prog (n + 3) 28 cs) : ∃ ys : List (List Int), cs = [islE (sliceE intE) ys] ∧ ys.length ≤ 9223372036854775807 ∧ ∀ y ∈ ys, y.length ≤ 9223372036854775807 := by
  obtain ⟨ys, rfl, hn, hq⟩ := Ab.slE (E := sliceE intE) (Q := fun y => y.length ≤ 9223372036854775807) Tryz.underlying28 (fun x hx => by obtain ⟨y, rfl, hy, _⟩ := ab_Int64S hx; exact ⟨y, rfl, hy⟩) h
  exact ⟨ys, rfl, hn, hq⟩
theorem ab_Cluster {n : Nat} {cs : List Value} (h : Ab Tryz.prog (n + 8) 30 cs) : ∃ y : TCluster, cs = cellsV (clusterE.val y) ∧ limCluster y := by
  obtain ⟨p0, q0, rfl, h0, p1, q1, rfl, h1, p2, q2, rfl, h2, p3, q3, rfl, h3, p4, q4, rfl, h4, p5, q5, rfl, h5, rfl⟩ := Ab.str Tryz.underlying30 h
  obtain ⟨y0, rfl, l0⟩ := ab_Quorum h0
  obtain ⟨y1, rfl, l1, _⟩ := ab_Int64S h1
  obtain ⟨y2, rfl, l2⟩ := ab_NodeS h2
  obtain ⟨y3, rfl, l3⟩ := ab_VoterS h3
  obtain ⟨y4, rfl, l4⟩ := ab_VoteS h4
  obtain ⟨y5, rfl, l5⟩ := ab_Int64SS h5
  exact ⟨⟨y0, y1, y2, y3, y4, y5⟩, rfl, l0, l1, l2, l3, l4, l5⟩
end Go.BM
