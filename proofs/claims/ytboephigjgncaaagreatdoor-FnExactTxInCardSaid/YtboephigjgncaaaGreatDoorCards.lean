/-
  DERIVED. GIVEN WITH THE SEED: THE CARDS: each row of YtboephigjgncaaaGreatDoorRows.lean that lists a variable, with what it lists TIED to the program's text (the seventh form; the later family's looks); each row that meets fmt, with fmt's text TOLD by the authors' own Lean function (tested against real Go, not proved from fmt's source: count such statements apart). THE CARD IS WHAT COUNTS. Prove the row's statement (the work); the ties are given (YtboephigjgncaaaGreatDoorTie.lean); close each card by the builder's one call (the guide's Derived/Test/ToyasCard.lean, 'card_holds'). Laid BY PROGRAM, IN A SANDBOX (cutbox-door.mjs). By AI agents, Wed Nov 11 2026. No macro, syntax, notation, axiom, sorry.
-/
import Derived.Test.YtboephigjgncaaaGreatDoorRows
import GoSem.ClaimSeven
namespace Go.Proofs.YtboephigjgncaaaGreatDoor
namespace Rows

/-- THE TIED CARD OF 'laws.FnExactBlockIn'. -/
def fnExactBlockInCard : Claim7 := { stood := { row := fnExactBlockInRow, standIns := [], harness := (true, "3724969dc245eae34e2e231c81f344224b400d3a3966c041219d1bf66e9023cf"), looks := true }, kinds := [], alts := [], laidByText := true, laidKinds := [.data, .data, .data, .data, .sentinel, .sentinel, .pinned], laidTests := true, laidLooks := .later }
def FnExactBlockInCardSaid : Prop := Claim7.holds Tryz.pinned (.plain (OpenSpec.ofChange fnExactBlockInSpec)) fnExactBlockInCard

/-- THE TIED CARD OF 'laws.FnExactTxIn'. -/
def fnExactTxInCard : Claim7 := { stood := { row := fnExactTxInRow, standIns := [], harness := (true, "3724969dc245eae34e2e231c81f344224b400d3a3966c041219d1bf66e9023cf"), looks := true }, kinds := [], alts := [], laidByText := true, laidKinds := [.data, .data, .data, .data, .sentinel, .sentinel, .pinned], laidTests := true, laidLooks := .later }
def FnExactTxInCardSaid : Prop := Claim7.holds Tryz.pinned (.plain (OpenSpec.ofChange fnExactTxInSpec)) fnExactTxInCard

/-- THE SECOND FORM's CARD OF 'laws.FnExactBlockIn'. -/
def fnExactBlockInUptoCard : Claim7 := { stood := { row := fnExactBlockInUptoRow, standIns := [], harness := (true, "3724969dc245eae34e2e231c81f344224b400d3a3966c041219d1bf66e9023cf"), looks := true }, kinds := [], alts := [], laidByText := true, laidKinds := [.data, .data, .data, .data, .sentinel, .sentinel, .pinned], laidTests := true, laidLooks := .later }
def FnExactBlockInUptoCardSaid : Prop := Claim7.holds Tryz.pinned (.plain (OpenSpec.upto fnExactBlockInSpec)) fnExactBlockInUptoCard

/-- THE SECOND FORM's CARD OF 'laws.FnExactTxIn'. -/
def fnExactTxInUptoCard : Claim7 := { stood := { row := fnExactTxInUptoRow, standIns := [], harness := (true, "3724969dc245eae34e2e231c81f344224b400d3a3966c041219d1bf66e9023cf"), looks := true }, kinds := [], alts := [], laidByText := true, laidKinds := [.data, .data, .data, .data, .sentinel, .sentinel, .pinned], laidTests := true, laidLooks := .later }
def FnExactTxInUptoCardSaid : Prop := Claim7.holds Tryz.pinned (.plain (OpenSpec.upto fnExactTxInSpec)) fnExactTxInUptoCard
end Rows
end Go.Proofs.YtboephigjgncaaaGreatDoor
