/- What arguments are, as data. -/
import Derived.Test.YtdhincmlefpfkaaD1
import Derived.Test.YtdhincmlefpfkaaC18
set_option linter.unusedVariables false
set_option linter.unusedSimpArgs false
set_option maxRecDepth 100000
set_option maxHeartbeats 4000000
namespace Go.BM
open Go.Proofs Go.RowKit
attribute [local irreducible] ACalls AWp aops qops optK optP cK gateA condK mops qcallK PCalls loadV fldV idxV lenV slV storeH binS
theorem ab_Int64S {n : Nat} {cs : List Value} (h : Ab Try.prog (n + 2) 24 cs) : ∃ ys : List Int, cs = [islE intE ys] ∧ ys.length ≤ 9223372036854775807 ∧ ∀ y ∈ ys, (Lit.int .i64 y).wf = true := by
  obtain ⟨ys, rfl, hn, hq⟩ := Ab.slE (E := intE) (Q := fun y => (Lit.int .i64 y).wf = true) Try.underlying24 (fun x hx => by obtain ⟨y, rfl, hy⟩ := Ab.int Try.underlying2 hx; exact ⟨y, rfl, hy⟩) h
  exact ⟨ys, rfl, hn, hq⟩

theorem ab_StringS {n : Nat} {cs : List Value} (h : Ab Try.prog (n + 2) 52 cs) : ∃ ys : List ByteArray, cs = [islE strE ys] ∧ ys.length ≤ 9223372036854775807 ∧ ∀ y ∈ ys, y.size ≤ maxLen := by
  obtain ⟨ys, rfl, hn, hq⟩ := Ab.slE (E := strE) (Q := fun y => y.size ≤ maxLen) Try.underlying52 (fun x hx => by obtain ⟨y, rfl, hy⟩ := Ab.string Try.underlying9 hx; exact ⟨y, rfl, hy⟩) h
  exact ⟨ys, rfl, hn, hq⟩

theorem ab_Ref {n : Nat} {cs : List Value} (h : Ab Try.prog (n + 2) 98 cs) : ∃ y : TRef, cs = cellsV (refE.val y) := by
  obtain ⟨p0, q0, rfl, h0, p1, q1, rfl, h1, rfl⟩ := Ab.str Try.underlying98 h
  obtain ⟨y0, rfl, _⟩ := Ab.int Try.underlying2 h0
  obtain ⟨y1, rfl, _⟩ := Ab.int Try.underlying2 h1
  exact ⟨⟨y0, y1⟩, rfl⟩

theorem ab_Node {n : Nat} {cs : List Value} (h : Ab Try.prog (n + 2) 38 cs) : ∃ y : TNode, cs = cellsV (nodeE.val y) := by
  obtain ⟨p0, q0, rfl, h0, p1, q1, rfl, h1, p2, q2, rfl, h2, rfl⟩ := Ab.str Try.underlying38 h
  obtain ⟨y0, rfl, _⟩ := Ab.int Try.underlying2 h0
  obtain ⟨y1, rfl, _⟩ := Ab.int Try.underlying2 h1
  obtain ⟨y2, rfl, _⟩ := Ab.int Try.underlying2 h2
  exact ⟨⟨y0, y1, y2⟩, rfl⟩

theorem ab_NodeS {n : Nat} {cs : List Value} (h : Ab Try.prog (n + 3) 36 cs) : ∃ ys : List TNode, cs = [islE nodeE ys] ∧ ys.length ≤ 9223372036854775807 := by
  obtain ⟨ys, rfl, hn, hq⟩ := Ab.slE (E := nodeE) (Q := fun y => True) Try.underlying36 (fun x hx => by obtain ⟨y, rfl⟩ := ab_Node hx; exact ⟨y, rfl, trivial⟩) h
  exact ⟨ys, rfl, hn⟩

theorem ab_Choice {n : Nat} {cs : List Value} (h : Ab Try.prog (n + 3) 224 cs) : ∃ y : TChoice, cs = cellsV (choiceE.val y) := by
  obtain ⟨p0, q0, rfl, h0, p1, q1, rfl, h1, rfl⟩ := Ab.str Try.underlying224 h
  obtain ⟨y0, rfl⟩ := ab_Ref h0
  obtain ⟨y1, rfl, _⟩ := Ab.int Try.underlying2 h1
  exact ⟨⟨y0, y1⟩, rfl⟩

theorem ab_ChoiceS {n : Nat} {cs : List Value} (h : Ab Try.prog (n + 4) 117 cs) : ∃ ys : List TChoice, cs = [islE choiceE ys] ∧ ys.length ≤ 9223372036854775807 := by
  obtain ⟨ys, rfl, hn, hq⟩ := Ab.slE (E := choiceE) (Q := fun y => True) Try.underlying117 (fun x hx => by obtain ⟨y, rfl⟩ := ab_Choice hx; exact ⟨y, rfl, trivial⟩) h
  exact ⟨ys, rfl, hn⟩

theorem ab_Sign {n : Nat} {cs : List Value} (h : Ab Try.prog (n + 2) 218 cs) : ∃ y : TSign, cs = cellsV (signE.val y) := by
  obtain ⟨p0, q0, rfl, h0, p1, q1, rfl, h1, rfl⟩ := Ab.str Try.underlying218 h
  obtain ⟨y0, rfl, _⟩ := Ab.int Try.underlying2 h0
  obtain ⟨y1, rfl, _⟩ := Ab.int Try.underlying2 h1
  exact ⟨⟨y0, y1⟩, rfl⟩

theorem ab_SignS {n : Nat} {cs : List Value} (h : Ab Try.prog (n + 3) 109 cs) : ∃ ys : List TSign, cs = [islE signE ys] ∧ ys.length ≤ 9223372036854775807 := by
  obtain ⟨ys, rfl, hn, hq⟩ := Ab.slE (E := signE) (Q := fun y => True) Try.underlying109 (fun x hx => by obtain ⟨y, rfl⟩ := ab_Sign hx; exact ⟨y, rfl, trivial⟩) h
  exact ⟨ys, rfl, hn⟩

theorem ab_Vote {n : Nat} {cs : List Value} (h : Ab Try.prog (n + 3) 100 cs) : ∃ y : TVote, cs = cellsV (voteE.val y) := by
  obtain ⟨p0, q0, rfl, h0, p1, q1, rfl, h1, p2, q2, rfl, h2, p3, q3, rfl, h3, p4, q4, rfl, h4, rfl⟩ := Ab.str Try.underlying100 h
  obtain ⟨y0, rfl, _⟩ := Ab.int Try.underlying2 h0
  obtain ⟨y1, rfl, _⟩ := Ab.int Try.underlying2 h1
  obtain ⟨y2, rfl, _⟩ := Ab.int Try.underlying2 h2
  obtain ⟨y3, rfl⟩ := ab_Ref h3
  obtain ⟨y4, rfl, _⟩ := Ab.int Try.underlying2 h4
  exact ⟨⟨y0, y1, y2, y3, y4⟩, rfl⟩

theorem ab_VoteS {n : Nat} {cs : List Value} (h : Ab Try.prog (n + 4) 96 cs) : ∃ ys : List TVote, cs = [islE voteE ys] ∧ ys.length ≤ 9223372036854775807 := by
  obtain ⟨ys, rfl, hn, hq⟩ := Ab.slE (E := voteE) (Q := fun y => True) Try.underlying96 (fun x hx => by obtain ⟨y, rfl⟩ := ab_Vote hx; exact ⟨y, rfl, trivial⟩) h
  exact ⟨ys, rfl, hn⟩

end Go.BM
