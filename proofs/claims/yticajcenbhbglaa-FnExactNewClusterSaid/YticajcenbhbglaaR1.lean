/- What arguments are, as data. -/
import Derived.Test.YticajcenbhbglaaD1
import Derived.Test.YticajcenbhbglaaC19
set_option linter.unusedVariables false
set_option linter.unusedSimpArgs false
set_option maxRecDepth 100000
set_option maxHeartbeats 4000000
namespace Go.BM
open Go.Proofs Go.RowKit
attribute [local irreducible] ACalls AWp aops qops optK optP cK gateA condK mops qcallK PCalls loadV fldV idxV lenV slV storeH binS
theorem ab_Int64S {n : Nat} {cs : List Value} (h : Ab Try.prog (n + 2) 22 cs) : ∃ ys : List Int, cs = [islE intE ys] ∧ ys.length ≤ 9223372036854775807 ∧ ∀ y ∈ ys, (Lit.int .i64 y).wf = true := by
  obtain ⟨ys, rfl, hn, hq⟩ := Ab.slE (E := intE) (Q := fun y => (Lit.int .i64 y).wf = true) Try.underlying22 (fun x hx => by obtain ⟨y, rfl, hy⟩ := Ab.int Try.underlying2 hx; exact ⟨y, rfl, hy⟩) h
  exact ⟨ys, rfl, hn, hq⟩

end Go.BM
