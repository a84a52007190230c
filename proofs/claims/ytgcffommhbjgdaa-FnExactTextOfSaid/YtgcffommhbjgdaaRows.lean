/-
  No cell of these rows narrows 'for every input' (looked for: loops, veiled, ifaces, maps, wideKeys, modest, calm, conditions, laid).
  DERIVED. THE GIVEN ROWS OF THIS SEAT. 12 by the template 'for every input the law returns true; each argument reads behind the call as it read before'; 0 by the template 'total and deterministic' (their statements: YtgcffommhbjgdaaTotals.lean).
  GIVEN WITH THE SEED: the statements are not yours to turn. If you find one false, say at which input.
  Laid BY PROGRAM, IN A SANDBOX (cutbox-rows.mjs): the forced cells as the released guide's own fill.sh prints them over the translation 330c4e157d2f535b… (all of the seat's roots in one cut). By AI agents, Wed Nov 11 2026. No macro, syntax, notation, axiom, sorry.
-/
import Derived.Test.YtgcffommhbjgdaaChecked
import GoSem.Claim
import GoSem.ClaimJoined
import GoSem.ClaimMapViews
import Derived.JoinedTies
import Derived.KernelRfl
namespace Go.Proofs.Ytgcffommhbjgdaa
/- THE CELL 'sum', in the pinned program and in every row, IS THE sha256 OF THE DUMP (.gsa) THAT YtgcffommhbjgdaaProg.lean LOADS. Nothing in Lean hashes anything: it is a label: what it is worth is what the hold of that sum in a sandbox is worth. -/
noncomputable def Try.pinned : Pinned := { name := "ytgcffommhbjgdaa", sum := "330c4e157d2f535b801fc5cef364f0300cf757a6ae4332624c7b607262420142", checked := Try.checked }
namespace Rows
def none {H : Type} : Left H := { results := [], args := [] }

/-- 'laws.FnExactVoteFault': WHATEVER THE INPUT: true; the input reads as it did. -/
def fnExactVoteFaultSpec : ChangeSpec := { name := "fnExactVoteFault", fn := fun _ => fun
  | [d] => { results := [.lit (.bool true)], args := [d] }
  | _ => none }
def fnExactVoteFaultRow : OpenClaim := { program := "ytgcffommhbjgdaa", sum := "330c4e157d2f535b801fc5cef364f0300cf757a6ae4332624c7b607262420142", func := "loop.example/g00304/laws.FnExactVoteFault", spec := "fnExactVoteFault", apart := false }
def FnExactVoteFaultSaid : Prop := fnExactVoteFaultRow.holds Try.pinned (OpenSpec.ofChange fnExactVoteFaultSpec)

/-- ITS FALSE NEIGHBOUR: 'it returns false'. Refute it at one input. -/
def fnExactVoteFaultWrong : ChangeSpec := { name := "fnExactVoteFault", fn := fun _ => fun
  | [d] => { results := [.lit (.bool false)], args := [d] }
  | _ => none }
def FnExactVoteFaultWrongFalsely : Prop := fnExactVoteFaultRow.holds Try.pinned (OpenSpec.ofChange fnExactVoteFaultWrong)

/-- 'laws.FnExactQuorumFault': WHATEVER THE INPUT: true; the input reads as it did. -/
def fnExactQuorumFaultSpec : ChangeSpec := { name := "fnExactQuorumFault", fn := fun _ => fun
  | [d] => { results := [.lit (.bool true)], args := [d] }
  | _ => none }
def fnExactQuorumFaultRow : OpenClaim := { program := "ytgcffommhbjgdaa", sum := "330c4e157d2f535b801fc5cef364f0300cf757a6ae4332624c7b607262420142", func := "loop.example/g00304/laws.FnExactQuorumFault", spec := "fnExactQuorumFault", unfollowed := true, recurses := true, apart := false }
def FnExactQuorumFaultSaid : Prop := fnExactQuorumFaultRow.holds Try.pinned (OpenSpec.ofChange fnExactQuorumFaultSpec)

/-- ITS FALSE NEIGHBOUR: 'it returns false'. Refute it at one input. -/
def fnExactQuorumFaultWrong : ChangeSpec := { name := "fnExactQuorumFault", fn := fun _ => fun
  | [d] => { results := [.lit (.bool false)], args := [d] }
  | _ => none }
def FnExactQuorumFaultWrongFalsely : Prop := fnExactQuorumFaultRow.holds Try.pinned (OpenSpec.ofChange fnExactQuorumFaultWrong)

/-- 'laws.FnExactMeetOf': WHATEVER THE INPUT: true; the input reads as it did. -/
def fnExactMeetOfSpec : ChangeSpec := { name := "fnExactMeetOf", fn := fun _ => fun
  | [d1, d2] => { results := [.lit (.bool true)], args := [d1, d2] }
  | _ => none }
def fnExactMeetOfRow : OpenClaim := { program := "ytgcffommhbjgdaa", sum := "330c4e157d2f535b801fc5cef364f0300cf757a6ae4332624c7b607262420142", func := "loop.example/g00304/laws.FnExactMeetOf", spec := "fnExactMeetOf", unfollowed := true, recurses := true, apart := false }
def FnExactMeetOfSaid : Prop := fnExactMeetOfRow.holds Try.pinned (OpenSpec.ofChange fnExactMeetOfSpec)

/-- ITS FALSE NEIGHBOUR: 'it returns false'. Refute it at one input. -/
def fnExactMeetOfWrong : ChangeSpec := { name := "fnExactMeetOf", fn := fun _ => fun
  | [d1, d2] => { results := [.lit (.bool false)], args := [d1, d2] }
  | _ => none }
def FnExactMeetOfWrongFalsely : Prop := fnExactMeetOfRow.holds Try.pinned (OpenSpec.ofChange fnExactMeetOfWrong)

/-- 'laws.FnExactNewVoter': WHATEVER THE INPUT: true; the input reads as it did. -/
def fnExactNewVoterSpec : ChangeSpec := { name := "fnExactNewVoter", fn := fun _ => fun
  | [d] => { results := [.lit (.bool true)], args := [d] }
  | _ => none }
def fnExactNewVoterRow : OpenClaim := { program := "ytgcffommhbjgdaa", sum := "330c4e157d2f535b801fc5cef364f0300cf757a6ae4332624c7b607262420142", func := "loop.example/g00304/laws.FnExactNewVoter", spec := "fnExactNewVoter", apart := false }
def FnExactNewVoterSaid : Prop := fnExactNewVoterRow.holds Try.pinned (OpenSpec.ofChange fnExactNewVoterSpec)

/-- ITS FALSE NEIGHBOUR: 'it returns false'. Refute it at one input. -/
def fnExactNewVoterWrong : ChangeSpec := { name := "fnExactNewVoter", fn := fun _ => fun
  | [d] => { results := [.lit (.bool false)], args := [d] }
  | _ => none }
def FnExactNewVoterWrongFalsely : Prop := fnExactNewVoterRow.holds Try.pinned (OpenSpec.ofChange fnExactNewVoterWrong)

/-- 'laws.FnExactVoterFault': WHATEVER THE INPUT: true; the input reads as it did. -/
def fnExactVoterFaultSpec : ChangeSpec := { name := "fnExactVoterFault", fn := fun _ => fun
  | [d] => { results := [.lit (.bool true)], args := [d] }
  | _ => none }
def fnExactVoterFaultRow : OpenClaim := { program := "ytgcffommhbjgdaa", sum := "330c4e157d2f535b801fc5cef364f0300cf757a6ae4332624c7b607262420142", func := "loop.example/g00304/laws.FnExactVoterFault", spec := "fnExactVoterFault", unfollowed := true, recurses := true, apart := false }
def FnExactVoterFaultSaid : Prop := fnExactVoterFaultRow.holds Try.pinned (OpenSpec.ofChange fnExactVoterFaultSpec)

/-- ITS FALSE NEIGHBOUR: 'it returns false'. Refute it at one input. -/
def fnExactVoterFaultWrong : ChangeSpec := { name := "fnExactVoterFault", fn := fun _ => fun
  | [d] => { results := [.lit (.bool false)], args := [d] }
  | _ => none }
def FnExactVoterFaultWrongFalsely : Prop := fnExactVoterFaultRow.holds Try.pinned (OpenSpec.ofChange fnExactVoterFaultWrong)

/-- 'laws.FnExactCanLock': WHATEVER THE INPUT: true; the input reads as it did. -/
def fnExactCanLockSpec : ChangeSpec := { name := "fnExactCanLock", fn := fun _ => fun
  | [d1, d2] => { results := [.lit (.bool true)], args := [d1, d2] }
  | _ => none }
def fnExactCanLockRow : OpenClaim := { program := "ytgcffommhbjgdaa", sum := "330c4e157d2f535b801fc5cef364f0300cf757a6ae4332624c7b607262420142", func := "loop.example/g00304/laws.FnExactCanLock", spec := "fnExactCanLock", unfollowed := true, recurses := true, apart := false }
def FnExactCanLockSaid : Prop := fnExactCanLockRow.holds Try.pinned (OpenSpec.ofChange fnExactCanLockSpec)

/-- ITS FALSE NEIGHBOUR: 'it returns false'. Refute it at one input. -/
def fnExactCanLockWrong : ChangeSpec := { name := "fnExactCanLock", fn := fun _ => fun
  | [d1, d2] => { results := [.lit (.bool false)], args := [d1, d2] }
  | _ => none }
def FnExactCanLockWrongFalsely : Prop := fnExactCanLockRow.holds Try.pinned (OpenSpec.ofChange fnExactCanLockWrong)

/-- 'laws.FnExactIsAbove': WHATEVER THE INPUT: true; the input reads as it did. -/
def fnExactIsAboveSpec : ChangeSpec := { name := "fnExactIsAbove", fn := fun _ => fun
  | [d1, d2, d3] => { results := [.lit (.bool true)], args := [d1, d2, d3] }
  | _ => none }
def fnExactIsAboveRow : OpenClaim := { program := "ytgcffommhbjgdaa", sum := "330c4e157d2f535b801fc5cef364f0300cf757a6ae4332624c7b607262420142", func := "loop.example/g00304/laws.FnExactIsAbove", spec := "fnExactIsAbove", unfollowed := true, recurses := true, apart := false }
def FnExactIsAboveSaid : Prop := fnExactIsAboveRow.holds Try.pinned (OpenSpec.ofChange fnExactIsAboveSpec)

/-- ITS FALSE NEIGHBOUR: 'it returns false'. Refute it at one input. -/
def fnExactIsAboveWrong : ChangeSpec := { name := "fnExactIsAbove", fn := fun _ => fun
  | [d1, d2, d3] => { results := [.lit (.bool false)], args := [d1, d2, d3] }
  | _ => none }
def FnExactIsAboveWrongFalsely : Prop := fnExactIsAboveRow.holds Try.pinned (OpenSpec.ofChange fnExactIsAboveWrong)

/-- 'laws.FnExactIsSafe': WHATEVER THE INPUT: true; the input reads as it did. -/
def fnExactIsSafeSpec : ChangeSpec := { name := "fnExactIsSafe", fn := fun _ => fun
  | [d1, d2] => { results := [.lit (.bool true)], args := [d1, d2] }
  | _ => none }
def fnExactIsSafeRow : OpenClaim := { program := "ytgcffommhbjgdaa", sum := "330c4e157d2f535b801fc5cef364f0300cf757a6ae4332624c7b607262420142", func := "loop.example/g00304/laws.FnExactIsSafe", spec := "fnExactIsSafe", unfollowed := true, recurses := true, apart := false }
def FnExactIsSafeSaid : Prop := fnExactIsSafeRow.holds Try.pinned (OpenSpec.ofChange fnExactIsSafeSpec)

/-- ITS FALSE NEIGHBOUR: 'it returns false'. Refute it at one input. -/
def fnExactIsSafeWrong : ChangeSpec := { name := "fnExactIsSafe", fn := fun _ => fun
  | [d1, d2] => { results := [.lit (.bool false)], args := [d1, d2] }
  | _ => none }
def FnExactIsSafeWrongFalsely : Prop := fnExactIsSafeRow.holds Try.pinned (OpenSpec.ofChange fnExactIsSafeWrong)

/-- 'laws.FnExactRelated': WHATEVER THE INPUT: true; the input reads as it did. -/
def fnExactRelatedSpec : ChangeSpec := { name := "fnExactRelated", fn := fun _ => fun
  | [d1, d2, d3] => { results := [.lit (.bool true)], args := [d1, d2, d3] }
  | _ => none }
def fnExactRelatedRow : OpenClaim := { program := "ytgcffommhbjgdaa", sum := "330c4e157d2f535b801fc5cef364f0300cf757a6ae4332624c7b607262420142", func := "loop.example/g00304/laws.FnExactRelated", spec := "fnExactRelated", unfollowed := true, recurses := true, apart := false }
def FnExactRelatedSaid : Prop := fnExactRelatedRow.holds Try.pinned (OpenSpec.ofChange fnExactRelatedSpec)

/-- ITS FALSE NEIGHBOUR: 'it returns false'. Refute it at one input. -/
def fnExactRelatedWrong : ChangeSpec := { name := "fnExactRelated", fn := fun _ => fun
  | [d1, d2, d3] => { results := [.lit (.bool false)], args := [d1, d2, d3] }
  | _ => none }
def FnExactRelatedWrongFalsely : Prop := fnExactRelatedRow.holds Try.pinned (OpenSpec.ofChange fnExactRelatedWrong)

/-- 'laws.FnChooses': WHATEVER THE INPUT: true; the input reads as it did. -/
def fnChoosesSpec : ChangeSpec := { name := "fnChooses", fn := fun _ => fun
  | [d] => { results := [.lit (.bool true)], args := [d] }
  | _ => none }
def fnChoosesRow : OpenClaim := { program := "ytgcffommhbjgdaa", sum := "330c4e157d2f535b801fc5cef364f0300cf757a6ae4332624c7b607262420142", func := "loop.example/g00304/laws.FnChooses", spec := "fnChooses", unfollowed := true, recurses := true, apart := false }
def FnChoosesSaid : Prop := fnChoosesRow.holds Try.pinned (OpenSpec.ofChange fnChoosesSpec)

/-- ITS FALSE NEIGHBOUR: 'it returns false'. Refute it at one input. -/
def fnChoosesWrong : ChangeSpec := { name := "fnChooses", fn := fun _ => fun
  | [d] => { results := [.lit (.bool false)], args := [d] }
  | _ => none }
def FnChoosesWrongFalsely : Prop := fnChoosesRow.holds Try.pinned (OpenSpec.ofChange fnChoosesWrong)

/-- 'laws.FnExactForkOf': WHATEVER THE INPUT: true; the input reads as it did. -/
def fnExactForkOfSpec : ChangeSpec := { name := "fnExactForkOf", fn := fun _ => fun
  | [d1, d2, d3] => { results := [.lit (.bool true)], args := [d1, d2, d3] }
  | _ => none }
def fnExactForkOfRow : OpenClaim := { program := "ytgcffommhbjgdaa", sum := "330c4e157d2f535b801fc5cef364f0300cf757a6ae4332624c7b607262420142", func := "loop.example/g00304/laws.FnExactForkOf", spec := "fnExactForkOf", unfollowed := true, recurses := true, apart := false }
def FnExactForkOfSaid : Prop := fnExactForkOfRow.holds Try.pinned (OpenSpec.ofChange fnExactForkOfSpec)

/-- ITS FALSE NEIGHBOUR: 'it returns false'. Refute it at one input. -/
def fnExactForkOfWrong : ChangeSpec := { name := "fnExactForkOf", fn := fun _ => fun
  | [d1, d2, d3] => { results := [.lit (.bool false)], args := [d1, d2, d3] }
  | _ => none }
def FnExactForkOfWrongFalsely : Prop := fnExactForkOfRow.holds Try.pinned (OpenSpec.ofChange fnExactForkOfWrong)

/-- 'laws.FnExactTextOf': WHATEVER THE INPUT: true; the input reads as it did. -/
def fnExactTextOfSpec : ChangeSpec := { name := "fnExactTextOf", fn := fun _ => fun
  | [d1, d2] => { results := [.lit (.bool true)], args := [d1, d2] }
  | _ => none }
def fnExactTextOfRow : OpenClaim := { program := "ytgcffommhbjgdaa", sum := "330c4e157d2f535b801fc5cef364f0300cf757a6ae4332624c7b607262420142", func := "loop.example/g00304/laws.FnExactTextOf", spec := "fnExactTextOf", apart := false }
def FnExactTextOfSaid : Prop := fnExactTextOfRow.holds Try.pinned (OpenSpec.ofChange fnExactTextOfSpec)

/-- ITS FALSE NEIGHBOUR: 'it returns false'. Refute it at one input. -/
def fnExactTextOfWrong : ChangeSpec := { name := "fnExactTextOf", fn := fun _ => fun
  | [d1, d2] => { results := [.lit (.bool false)], args := [d1, d2] }
  | _ => none }
def FnExactTextOfWrongFalsely : Prop := fnExactTextOfRow.holds Try.pinned (OpenSpec.ofChange fnExactTextOfWrong)

/- THE SECOND FORM. 'bulk': how many values and letters a reading holds, each counted each time it is reached (what is shared counts as often as it is met; a slice's spare places count too). A statement '..UptoSaid' is the law's where the arguments, and the package variables that the reading takes, are together of bulk at most 1048576: NARROWER than '..Said'. Prove '..Said' where nothing that the law and all that it calls make is longer than what came in: it says more and counts as full. Else prove '..UptoSaid'. A law counts once. -/
mutual
def uptoBulk {H : Type} : DataW H → Nat
  | .lit (.string bytes) => bytes.length + 1
  | .lit _ => 1
  | .nil => 1
  | .ptr d => uptoBulk d + 1
  | .slice elems spare => uptoBulkAll elems + uptoBulkAll spare + 1
  | .agg parts => uptoBulkAll parts + 1
  | .iface _ d => uptoBulk d + 1
  | .map entries => uptoBulkEntries entries + 1
  | .held _ => 1
def uptoBulkAll {H : Type} : List (DataW H) → Nat
  | [] => 0
  | d :: r => uptoBulk d + uptoBulkAll r
def uptoBulkEntries {H : Type} : List (Lit × DataW H) → Nat
  | [] => 0
  | x :: r => uptoBulkEntry x + uptoBulkEntries r
def uptoBulkEntry {H : Type} : Lit × DataW H → Nat
  | (.string bytes, d) => bytes.length + uptoBulk d + 1
  | (_, d) => uptoBulk d + 1
 end
def uptoSmall : (H : Type) → List (DataW H) → Bool := fun _ ds => decide (uptoBulkAll ds ≤ 1048576)
def OpenSpec.upto (s : _root_.Go.ChangeSpec) : _root_.Go.OpenSpec := { _root_.Go.OpenSpec.ofChange s with cond := some uptoSmall }

/-- 'laws.FnExactVoteFault', WHERE WHAT IT READS IS OF BULK AT MOST 1048576: true; the input reads as it did. -/
def fnExactVoteFaultUptoRow : OpenClaim := { program := "ytgcffommhbjgdaa", sum := "330c4e157d2f535b801fc5cef364f0300cf757a6ae4332624c7b607262420142", func := "loop.example/g00304/laws.FnExactVoteFault", spec := "fnExactVoteFault", apart := false, narrowed := true }
def FnExactVoteFaultUptoSaid : Prop := fnExactVoteFaultUptoRow.holds Try.pinned (OpenSpec.upto fnExactVoteFaultSpec)

/-- 'laws.FnExactQuorumFault', WHERE WHAT IT READS IS OF BULK AT MOST 1048576: true; the input reads as it did. -/
def fnExactQuorumFaultUptoRow : OpenClaim := { program := "ytgcffommhbjgdaa", sum := "330c4e157d2f535b801fc5cef364f0300cf757a6ae4332624c7b607262420142", func := "loop.example/g00304/laws.FnExactQuorumFault", spec := "fnExactQuorumFault", unfollowed := true, recurses := true, apart := false, narrowed := true }
def FnExactQuorumFaultUptoSaid : Prop := fnExactQuorumFaultUptoRow.holds Try.pinned (OpenSpec.upto fnExactQuorumFaultSpec)

/-- 'laws.FnExactMeetOf', WHERE WHAT IT READS IS OF BULK AT MOST 1048576: true; the input reads as it did. -/
def fnExactMeetOfUptoRow : OpenClaim := { program := "ytgcffommhbjgdaa", sum := "330c4e157d2f535b801fc5cef364f0300cf757a6ae4332624c7b607262420142", func := "loop.example/g00304/laws.FnExactMeetOf", spec := "fnExactMeetOf", unfollowed := true, recurses := true, apart := false, narrowed := true }
def FnExactMeetOfUptoSaid : Prop := fnExactMeetOfUptoRow.holds Try.pinned (OpenSpec.upto fnExactMeetOfSpec)

/-- 'laws.FnExactNewVoter', WHERE WHAT IT READS IS OF BULK AT MOST 1048576: true; the input reads as it did. -/
def fnExactNewVoterUptoRow : OpenClaim := { program := "ytgcffommhbjgdaa", sum := "330c4e157d2f535b801fc5cef364f0300cf757a6ae4332624c7b607262420142", func := "loop.example/g00304/laws.FnExactNewVoter", spec := "fnExactNewVoter", apart := false, narrowed := true }
def FnExactNewVoterUptoSaid : Prop := fnExactNewVoterUptoRow.holds Try.pinned (OpenSpec.upto fnExactNewVoterSpec)

/-- 'laws.FnExactVoterFault', WHERE WHAT IT READS IS OF BULK AT MOST 1048576: true; the input reads as it did. -/
def fnExactVoterFaultUptoRow : OpenClaim := { program := "ytgcffommhbjgdaa", sum := "330c4e157d2f535b801fc5cef364f0300cf757a6ae4332624c7b607262420142", func := "loop.example/g00304/laws.FnExactVoterFault", spec := "fnExactVoterFault", unfollowed := true, recurses := true, apart := false, narrowed := true }
def FnExactVoterFaultUptoSaid : Prop := fnExactVoterFaultUptoRow.holds Try.pinned (OpenSpec.upto fnExactVoterFaultSpec)

/-- 'laws.FnExactCanLock', WHERE WHAT IT READS IS OF BULK AT MOST 1048576: true; the input reads as it did. -/
def fnExactCanLockUptoRow : OpenClaim := { program := "ytgcffommhbjgdaa", sum := "330c4e157d2f535b801fc5cef364f0300cf757a6ae4332624c7b607262420142", func := "loop.example/g00304/laws.FnExactCanLock", spec := "fnExactCanLock", unfollowed := true, recurses := true, apart := false, narrowed := true }
def FnExactCanLockUptoSaid : Prop := fnExactCanLockUptoRow.holds Try.pinned (OpenSpec.upto fnExactCanLockSpec)

/-- 'laws.FnExactIsAbove', WHERE WHAT IT READS IS OF BULK AT MOST 1048576: true; the input reads as it did. -/
def fnExactIsAboveUptoRow : OpenClaim := { program := "ytgcffommhbjgdaa", sum := "330c4e157d2f535b801fc5cef364f0300cf757a6ae4332624c7b607262420142", func := "loop.example/g00304/laws.FnExactIsAbove", spec := "fnExactIsAbove", unfollowed := true, recurses := true, apart := false, narrowed := true }
def FnExactIsAboveUptoSaid : Prop := fnExactIsAboveUptoRow.holds Try.pinned (OpenSpec.upto fnExactIsAboveSpec)

/-- 'laws.FnExactIsSafe', WHERE WHAT IT READS IS OF BULK AT MOST 1048576: true; the input reads as it did. -/
def fnExactIsSafeUptoRow : OpenClaim := { program := "ytgcffommhbjgdaa", sum := "330c4e157d2f535b801fc5cef364f0300cf757a6ae4332624c7b607262420142", func := "loop.example/g00304/laws.FnExactIsSafe", spec := "fnExactIsSafe", unfollowed := true, recurses := true, apart := false, narrowed := true }
def FnExactIsSafeUptoSaid : Prop := fnExactIsSafeUptoRow.holds Try.pinned (OpenSpec.upto fnExactIsSafeSpec)

/-- 'laws.FnExactRelated', WHERE WHAT IT READS IS OF BULK AT MOST 1048576: true; the input reads as it did. -/
def fnExactRelatedUptoRow : OpenClaim := { program := "ytgcffommhbjgdaa", sum := "330c4e157d2f535b801fc5cef364f0300cf757a6ae4332624c7b607262420142", func := "loop.example/g00304/laws.FnExactRelated", spec := "fnExactRelated", unfollowed := true, recurses := true, apart := false, narrowed := true }
def FnExactRelatedUptoSaid : Prop := fnExactRelatedUptoRow.holds Try.pinned (OpenSpec.upto fnExactRelatedSpec)

/-- 'laws.FnChooses', WHERE WHAT IT READS IS OF BULK AT MOST 1048576: true; the input reads as it did. -/
def fnChoosesUptoRow : OpenClaim := { program := "ytgcffommhbjgdaa", sum := "330c4e157d2f535b801fc5cef364f0300cf757a6ae4332624c7b607262420142", func := "loop.example/g00304/laws.FnChooses", spec := "fnChooses", unfollowed := true, recurses := true, apart := false, narrowed := true }
def FnChoosesUptoSaid : Prop := fnChoosesUptoRow.holds Try.pinned (OpenSpec.upto fnChoosesSpec)

/-- 'laws.FnExactForkOf', WHERE WHAT IT READS IS OF BULK AT MOST 1048576: true; the input reads as it did. -/
def fnExactForkOfUptoRow : OpenClaim := { program := "ytgcffommhbjgdaa", sum := "330c4e157d2f535b801fc5cef364f0300cf757a6ae4332624c7b607262420142", func := "loop.example/g00304/laws.FnExactForkOf", spec := "fnExactForkOf", unfollowed := true, recurses := true, apart := false, narrowed := true }
def FnExactForkOfUptoSaid : Prop := fnExactForkOfUptoRow.holds Try.pinned (OpenSpec.upto fnExactForkOfSpec)

/-- 'laws.FnExactTextOf', WHERE WHAT IT READS IS OF BULK AT MOST 1048576: true; the input reads as it did. -/
def fnExactTextOfUptoRow : OpenClaim := { program := "ytgcffommhbjgdaa", sum := "330c4e157d2f535b801fc5cef364f0300cf757a6ae4332624c7b607262420142", func := "loop.example/g00304/laws.FnExactTextOf", spec := "fnExactTextOf", apart := false, narrowed := true }
def FnExactTextOfUptoSaid : Prop := fnExactTextOfUptoRow.holds Try.pinned (OpenSpec.upto fnExactTextOfSpec)

end Rows
end Go.Proofs.Ytgcffommhbjgdaa
