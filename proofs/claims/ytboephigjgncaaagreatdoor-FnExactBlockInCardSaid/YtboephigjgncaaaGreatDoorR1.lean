/- What arguments are, as data. -/
import Derived.Test.YtboephigjgncaaaGreatDoorD1
import Derived.Test.YtboephigjgncaaaGreatDoorC19
set_option linter.unusedVariables false
set_option linter.unusedSimpArgs false
set_option maxRecDepth 100000
set_option maxHeartbeats 4000000
namespace Go.BM
open Go.Proofs Go.RowKit
attribute [local irreducible] ACalls AWp aops qops optK optP cK gateA condK mops qcallK PCalls loadV fldV idxV lenV slV storeH binS
theorem ab_Int64S {n : Nat} {cs : List Value} (h : Ab Tryz.prog (n + 2) 27 cs) : ∃ ys : List Int, cs = [islE intE ys] ∧ ys.length ≤ 9223372036854775807 ∧ ∀ y ∈ ys, (Lit.int .i64 y).wf = true := by
  obtain ⟨ys, rfl, hn, hq⟩ := Ab.slE (E := intE) (Q := fun y => (Lit.int .i64 y).wf = true) Tryz.underlying27 (fun x hx => by obtain ⟨y, rfl, hy⟩ := Ab.int Tryz.underlying2 hx; exact ⟨y, rfl, hy⟩) h
  exact ⟨ys, rfl, hn, hq⟩

theorem ab_StringS {n : Nat} {cs : List Value} (h : Ab Tryz.prog (n + 2) 22 cs) : ∃ ys : List ByteArray, cs = [islE strE ys] ∧ ys.length ≤ 9223372036854775807 ∧ ∀ y ∈ ys, y.size ≤ maxLen := by
  obtain ⟨ys, rfl, hn, hq⟩ := Ab.slE (E := strE) (Q := fun y => y.size ≤ maxLen) Tryz.underlying22 (fun x hx => by obtain ⟨y, rfl, hy⟩ := Ab.string Tryz.underlying9 hx; exact ⟨y, rfl, hy⟩) h
  exact ⟨ys, rfl, hn, hq⟩

theorem ab_Sign {n : Nat} {cs : List Value} (h : Ab Tryz.prog (n + 2) 80 cs) : ∃ y : TSign, cs = cellsV (signE.val y) := by
  obtain ⟨p0, q0, rfl, h0, p1, q1, rfl, h1, rfl⟩ := Ab.str Tryz.underlying80 h
  obtain ⟨y0, rfl, _⟩ := Ab.int Tryz.underlying2 h0
  obtain ⟨y1, rfl, _⟩ := Ab.int Tryz.underlying2 h1
  exact ⟨⟨y0, y1⟩, rfl⟩

theorem ab_SignS {n : Nat} {cs : List Value} (h : Ab Tryz.prog (n + 3) 23 cs) : ∃ ys : List TSign, cs = [islE signE ys] ∧ ys.length ≤ 9223372036854775807 := by
  obtain ⟨ys, rfl, hn, hq⟩ := Ab.slE (E := signE) (Q := fun y => True) Tryz.underlying23 (fun x hx => by obtain ⟨y, rfl⟩ := ab_Sign hx; exact ⟨y, rfl, trivial⟩) h
  exact ⟨ys, rfl, hn⟩

end Go.BM
