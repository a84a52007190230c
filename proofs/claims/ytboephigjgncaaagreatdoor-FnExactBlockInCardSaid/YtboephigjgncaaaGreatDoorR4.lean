/- What structs that hold slices are, as arguments. -/
import Derived.Test.YtboephigjgncaaaGreatDoorR1
import Derived.Test.YtboephigjgncaaaGreatDoorU3
set_option linter.unusedVariables false
set_option linter.unusedSimpArgs false
set_option maxRecDepth 100000
set_option maxHeartbeats 4000000
namespace Go.BM
open Go.Proofs Go.RowKit
attribute [local irreducible] ACalls AWp aops qops optK optP cK gateA condK mops qcallK PCalls loadV fldV idxV lenV slV storeH binS
theorem ab_Ledger {n : Nat} {cs : List Value} (h : Ab Tryz.prog (n + 4) 25 cs) : ∃ y : TLedger, cs = cellsV (ledgerE.val y) ∧ limLedger y := by
  obtain ⟨p0, q0, rfl, h0, p1, q1, rfl, h1, rfl⟩ := Ab.str Tryz.underlying25 h
  obtain ⟨y0, rfl, l0, m0⟩ := ab_StringS h0
  obtain ⟨y1, rfl, l1⟩ := ab_SignS h1
  exact ⟨⟨y0, y1⟩, rfl, ⟨⟨l0, m0⟩, l1⟩⟩
end Go.BM
