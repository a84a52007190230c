/- What arguments are, as data. -/
import Derived.Test.YtfggnccpbdfpeaaGreatD1
import Derived.Test.YtfggnccpbdfpeaaGreatC19
set_option linter.unusedVariables false
set_option linter.unusedSimpArgs false
set_option maxRecDepth 100000
set_option maxHeartbeats 4000000
namespace Go.BM
open Go.Proofs Go.RowKit
attribute [local irreducible] ACalls AWp aops qops optK optP cK gateA condK mops qcallK PCalls loadV fldV idxV lenV slV storeH binS
theorem ab_Int64S {n : Nat} {cs : List Value} (h : Ab Tryz.prog (n + 2) 22 cs) : ∃ ys : List Int, cs = [islE intE ys] ∧ ys.length ≤ 9223372036854775807 ∧ ∀ y ∈ ys, (Lit.int .i64 y).wf = true := by
  obtain ⟨ys, rfl, hn, hq⟩ := Ab.slE (E := intE) (Q := fun y => (Lit.int .i64 y).wf = true) Tryz.underlying22 (fun x hx => by obtain ⟨y, rfl, hy⟩ := Ab.int Tryz.underlying2 hx; exact ⟨y, rfl, hy⟩) h
  exact ⟨ys, rfl, hn, hq⟩

theorem ab_Ref {n : Nat} {cs : List Value} (h : Ab Tryz.prog (n + 2) 86 cs) : ∃ y : TRef, cs = cellsV (refE.val y) := by
  obtain ⟨p0, q0, rfl, h0, p1, q1, rfl, h1, rfl⟩ := Ab.str Tryz.underlying86 h
  obtain ⟨y0, rfl, _⟩ := Ab.int Tryz.underlying2 h0
  obtain ⟨y1, rfl, _⟩ := Ab.int Tryz.underlying2 h1
  exact ⟨⟨y0, y1⟩, rfl⟩

theorem ab_Node {n : Nat} {cs : List Value} (h : Ab Tryz.prog (n + 2) 76 cs) : ∃ y : TNode, cs = cellsV (nodeE.val y) := by
  obtain ⟨p0, q0, rfl, h0, p1, q1, rfl, h1, p2, q2, rfl, h2, rfl⟩ := Ab.str Tryz.underlying76 h
  obtain ⟨y0, rfl, _⟩ := Ab.int Tryz.underlying2 h0
  obtain ⟨y1, rfl, _⟩ := Ab.int Tryz.underlying2 h1
  obtain ⟨y2, rfl, _⟩ := Ab.int Tryz.underlying2 h2
  exact ⟨⟨y0, y1, y2⟩, rfl⟩

theorem ab_NodeS {n : Nat} {cs : List Value} (h : Ab Tryz.prog (n + 3) 25 cs) : ∃ ys : List TNode, cs = [islE nodeE ys] ∧ ys.length ≤ 9223372036854775807 := by
  obtain ⟨ys, rfl, hn, hq⟩ := Ab.slE (E := nodeE) (Q := fun y => True) Tryz.underlying25 (fun x hx => by obtain ⟨y, rfl⟩ := ab_Node hx; exact ⟨y, rfl, trivial⟩) h
  exact ⟨ys, rfl, hn⟩

theorem ab_Choice {n : Nat} {cs : List Value} (h : Ab Tryz.prog (n + 3) 132 cs) : ∃ y : TChoice, cs = cellsV (choiceE.val y) := by
  obtain ⟨p0, q0, rfl, h0, p1, q1, rfl, h1, rfl⟩ := Ab.str Tryz.underlying132 h
  obtain ⟨y0, rfl⟩ := ab_Ref h0
  obtain ⟨y1, rfl, _⟩ := Ab.int Tryz.underlying2 h1
  exact ⟨⟨y0, y1⟩, rfl⟩

theorem ab_ChoiceS {n : Nat} {cs : List Value} (h : Ab Tryz.prog (n + 4) 68 cs) : ∃ ys : List TChoice, cs = [islE choiceE ys] ∧ ys.length ≤ 9223372036854775807 := by
  obtain ⟨ys, rfl, hn, hq⟩ := Ab.slE (E := choiceE) (Q := fun y => True) Tryz.underlying68 (fun x hx => by obtain ⟨y, rfl⟩ := ab_Choice hx; exact ⟨y, rfl, trivial⟩) h
  exact ⟨ys, rfl, hn⟩

theorem ab_Vote {n : Nat} {cs : List Value} (h : Ab Tryz.prog (n + 3) 88 cs) : ∃ y : TVote, cs = cellsV (voteE.val y) := by
  obtain ⟨p0, q0, rfl, h0, p1, q1, rfl, h1, p2, q2, rfl, h2, p3, q3, rfl, h3, p4, q4, rfl, h4, rfl⟩ := Ab.str Tryz.underlying88 h
  obtain ⟨y0, rfl, _⟩ := Ab.int Tryz.underlying2 h0
  obtain ⟨y1, rfl, _⟩ := Ab.int Tryz.underlying2 h1
  obtain ⟨y2, rfl, _⟩ := Ab.int Tryz.underlying2 h2
  obtain ⟨y3, rfl⟩ := ab_Ref h3
  obtain ⟨y4, rfl, _⟩ := Ab.int Tryz.underlying2 h4
  exact ⟨⟨y0, y1, y2, y3, y4⟩, rfl⟩

theorem ab_VoteS {n : Nat} {cs : List Value} (h : Ab Tryz.prog (n + 4) 27 cs) : ∃ ys : List TVote, cs = [islE voteE ys] ∧ ys.length ≤ 9223372036854775807 := by
  obtain ⟨ys, rfl, hn, hq⟩ := Ab.slE (E := voteE) (Q := fun y => True) Tryz.underlying27 (fun x hx => by obtain ⟨y, rfl⟩ := ab_Vote hx; exact ⟨y, rfl, trivial⟩) h
  exact ⟨ys, rfl, hn⟩

end Go.BM
