/- What arguments are, as data. -/
import Derived.Test.YtfggnccpbdfpeaaD1
import Derived.Test.YtfggnccpbdfpeaaC19
set_option linter.unusedVariables false
set_option linter.unusedSimpArgs false
set_option maxRecDepth 100000
set_option maxHeartbeats 4000000
namespace Go.BM
open Go.Proofs Go.RowKit
attribute [local irreducible] ACalls AWp aops qops optK optP cK gateA condK mops qcallK PCalls loadV fldV idxV lenV slV storeH binS
theorem ab_Int64S {n : Nat} {cs : List Value} (h : Ab Try.prog (n + 2) 25 cs) : ∃ ys : List Int, cs = [islE intE ys] ∧ ys.length ≤ 9223372036854775807 ∧ ∀ y ∈ ys, (Lit.int .i64 y).wf = true := by
  obtain ⟨ys, rfl, hn, hq⟩ := Ab.slE (E := intE) (Q := fun y => (Lit.int .i64 y).wf = true) Try.underlying25 (fun x hx => by obtain ⟨y, rfl, hy⟩ := Ab.int Try.underlying2 hx; exact ⟨y, rfl, hy⟩) h
  exact ⟨ys, rfl, hn, hq⟩

theorem ab_StringS {n : Nat} {cs : List Value} (h : Ab Try.prog (n + 2) 37 cs) : ∃ ys : List ByteArray, cs = [islE strE ys] ∧ ys.length ≤ 9223372036854775807 ∧ ∀ y ∈ ys, y.size ≤ maxLen := by
  obtain ⟨ys, rfl, hn, hq⟩ := Ab.slE (E := strE) (Q := fun y => y.size ≤ maxLen) Try.underlying37 (fun x hx => by obtain ⟨y, rfl, hy⟩ := Ab.string Try.underlying9 hx; exact ⟨y, rfl, hy⟩) h
  exact ⟨ys, rfl, hn, hq⟩

theorem ab_Ref {n : Nat} {cs : List Value} (h : Ab Try.prog (n + 2) 215 cs) : ∃ y : TRef, cs = cellsV (refE.val y) := by
  obtain ⟨p0, q0, rfl, h0, p1, q1, rfl, h1, rfl⟩ := Ab.str Try.underlying215 h
  obtain ⟨y0, rfl, _⟩ := Ab.int Try.underlying2 h0
  obtain ⟨y1, rfl, _⟩ := Ab.int Try.underlying2 h1
  exact ⟨⟨y0, y1⟩, rfl⟩

theorem ab_Node {n : Nat} {cs : List Value} (h : Ab Try.prog (n + 2) 170 cs) : ∃ y : TNode, cs = cellsV (nodeE.val y) := by
  obtain ⟨p0, q0, rfl, h0, p1, q1, rfl, h1, p2, q2, rfl, h2, rfl⟩ := Ab.str Try.underlying170 h
  obtain ⟨y0, rfl, _⟩ := Ab.int Try.underlying2 h0
  obtain ⟨y1, rfl, _⟩ := Ab.int Try.underlying2 h1
  obtain ⟨y2, rfl, _⟩ := Ab.int Try.underlying2 h2
  exact ⟨⟨y0, y1, y2⟩, rfl⟩

theorem ab_NodeS {n : Nat} {cs : List Value} (h : Ab Try.prog (n + 3) 76 cs) : ∃ ys : List TNode, cs = [islE nodeE ys] ∧ ys.length ≤ 9223372036854775807 := by
  obtain ⟨ys, rfl, hn, hq⟩ := Ab.slE (E := nodeE) (Q := fun y => True) Try.underlying76 (fun x hx => by obtain ⟨y, rfl⟩ := ab_Node hx; exact ⟨y, rfl, trivial⟩) h
  exact ⟨ys, rfl, hn⟩

theorem ab_Choice {n : Nat} {cs : List Value} (h : Ab Try.prog (n + 3) 217 cs) : ∃ y : TChoice, cs = cellsV (choiceE.val y) := by
  obtain ⟨p0, q0, rfl, h0, p1, q1, rfl, h1, rfl⟩ := Ab.str Try.underlying217 h
  obtain ⟨y0, rfl⟩ := ab_Ref h0
  obtain ⟨y1, rfl, _⟩ := Ab.int Try.underlying2 h1
  exact ⟨⟨y0, y1⟩, rfl⟩

theorem ab_ChoiceS {n : Nat} {cs : List Value} (h : Ab Try.prog (n + 4) 77 cs) : ∃ ys : List TChoice, cs = [islE choiceE ys] ∧ ys.length ≤ 9223372036854775807 := by
  obtain ⟨ys, rfl, hn, hq⟩ := Ab.slE (E := choiceE) (Q := fun y => True) Try.underlying77 (fun x hx => by obtain ⟨y, rfl⟩ := ab_Choice hx; exact ⟨y, rfl, trivial⟩) h
  exact ⟨ys, rfl, hn⟩

theorem ab_Sign {n : Nat} {cs : List Value} (h : Ab Try.prog (n + 2) 203 cs) : ∃ y : TSign, cs = cellsV (signE.val y) := by
  obtain ⟨p0, q0, rfl, h0, p1, q1, rfl, h1, rfl⟩ := Ab.str Try.underlying203 h
  obtain ⟨y0, rfl, _⟩ := Ab.int Try.underlying2 h0
  obtain ⟨y1, rfl, _⟩ := Ab.int Try.underlying2 h1
  exact ⟨⟨y0, y1⟩, rfl⟩

theorem ab_SignS {n : Nat} {cs : List Value} (h : Ab Try.prog (n + 3) 38 cs) : ∃ ys : List TSign, cs = [islE signE ys] ∧ ys.length ≤ 9223372036854775807 := by
  obtain ⟨ys, rfl, hn, hq⟩ := Ab.slE (E := signE) (Q := fun y => True) Try.underlying38 (fun x hx => by obtain ⟨y, rfl⟩ := ab_Sign hx; exact ⟨y, rfl, trivial⟩) h
  exact ⟨ys, rfl, hn⟩

end Go.BM
