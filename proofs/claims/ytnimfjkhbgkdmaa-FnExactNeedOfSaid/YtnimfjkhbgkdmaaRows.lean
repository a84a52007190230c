/-
  No cell of these rows narrows 'for every input' (looked for: loops, veiled, ifaces, maps, wideKeys, modest, calm, conditions, laid).
  DERIVED. THE GIVEN ROWS OF THIS SEAT. 6 by the template 'for every input the law returns true; each argument reads behind the call as it read before'; 0 by the template 'total and deterministic' (their statements: YtnimfjkhbgkdmaaTotals.lean).
  GIVEN WITH THE SEED: the statements are not yours to turn. If you find one false, say at which input.
  Laid BY PROGRAM, IN A SANDBOX (cutbox-rows.mjs): the forced cells as the released guide's own fill.sh prints them over the translation 523fccc345afacd7… (all of the seat's roots in one cut). By AI agents, Wed Nov 11 2026. No macro, syntax, notation, axiom, sorry.
-/
import Derived.Test.YtnimfjkhbgkdmaaChecked
import GoSem.Claim
import GoSem.ClaimJoined
import GoSem.ClaimMapViews
import Derived.JoinedTies
import Derived.KernelRfl
namespace Go.Proofs.Ytnimfjkhbgkdmaa
/- THE CELL 'sum', in the pinned program and in every row, IS THE sha256 OF THE DUMP (.gsa) THAT YtnimfjkhbgkdmaaProg.lean LOADS. Nothing in Lean hashes anything: it is a label: what it is worth is what the hold of that sum in a sandbox is worth. -/
noncomputable def Try.pinned : Pinned := { name := "ytnimfjkhbgkdmaa", sum := "523fccc345afacd7f2d66ec26fd11d8c8c9137a6ab3d382972dc28768bdcbe3c", checked := Try.checked }
namespace Rows
def none {H : Type} : Left H := { results := [], args := [] }

/-- 'laws.FnExactRankOf': WHATEVER THE INPUT: true; the input reads as it did. -/
def fnExactRankOfSpec : ChangeSpec := { name := "fnExactRankOf", fn := fun _ => fun
  | [d1, d2] => { results := [.lit (.bool true)], args := [d1, d2] }
  | _ => none }
def fnExactRankOfRow : OpenClaim := { program := "ytnimfjkhbgkdmaa", sum := "523fccc345afacd7f2d66ec26fd11d8c8c9137a6ab3d382972dc28768bdcbe3c", func := "loop.example/g00304/laws.FnExactRankOf", spec := "fnExactRankOf", apart := false }
def FnExactRankOfSaid : Prop := fnExactRankOfRow.holds Try.pinned (OpenSpec.ofChange fnExactRankOfSpec)

/-- ITS FALSE NEIGHBOUR: 'it returns false'. Refute it at one input. -/
def fnExactRankOfWrong : ChangeSpec := { name := "fnExactRankOf", fn := fun _ => fun
  | [d1, d2] => { results := [.lit (.bool false)], args := [d1, d2] }
  | _ => none }
def FnExactRankOfWrongFalsely : Prop := fnExactRankOfRow.holds Try.pinned (OpenSpec.ofChange fnExactRankOfWrong)

/-- 'laws.FnExactNeedOf': WHATEVER THE INPUT: true; the input reads as it did. -/
def fnExactNeedOfSpec : ChangeSpec := { name := "fnExactNeedOf", fn := fun _ => fun
  | [d] => { results := [.lit (.bool true)], args := [d] }
  | _ => none }
def fnExactNeedOfRow : OpenClaim := { program := "ytnimfjkhbgkdmaa", sum := "523fccc345afacd7f2d66ec26fd11d8c8c9137a6ab3d382972dc28768bdcbe3c", func := "loop.example/g00304/laws.FnExactNeedOf", spec := "fnExactNeedOf", apart := false }
def FnExactNeedOfSaid : Prop := fnExactNeedOfRow.holds Try.pinned (OpenSpec.ofChange fnExactNeedOfSpec)

/-- ITS FALSE NEIGHBOUR: 'it returns false'. Refute it at one input. -/
def fnExactNeedOfWrong : ChangeSpec := { name := "fnExactNeedOf", fn := fun _ => fun
  | [d] => { results := [.lit (.bool false)], args := [d] }
  | _ => none }
def FnExactNeedOfWrongFalsely : Prop := fnExactNeedOfRow.holds Try.pinned (OpenSpec.ofChange fnExactNeedOfWrong)

/-- 'laws.FnExactVoteFault': WHATEVER THE INPUT: true; the input reads as it did. -/
def fnExactVoteFaultSpec : ChangeSpec := { name := "fnExactVoteFault", fn := fun _ => fun
  | [d] => { results := [.lit (.bool true)], args := [d] }
  | _ => none }
def fnExactVoteFaultRow : OpenClaim := { program := "ytnimfjkhbgkdmaa", sum := "523fccc345afacd7f2d66ec26fd11d8c8c9137a6ab3d382972dc28768bdcbe3c", func := "loop.example/g00304/laws.FnExactVoteFault", spec := "fnExactVoteFault", apart := false }
def FnExactVoteFaultSaid : Prop := fnExactVoteFaultRow.holds Try.pinned (OpenSpec.ofChange fnExactVoteFaultSpec)

/-- ITS FALSE NEIGHBOUR: 'it returns false'. Refute it at one input. -/
def fnExactVoteFaultWrong : ChangeSpec := { name := "fnExactVoteFault", fn := fun _ => fun
  | [d] => { results := [.lit (.bool false)], args := [d] }
  | _ => none }
def FnExactVoteFaultWrongFalsely : Prop := fnExactVoteFaultRow.holds Try.pinned (OpenSpec.ofChange fnExactVoteFaultWrong)

/-- 'laws.FnExactQuorumFault': WHATEVER THE INPUT: true; the input reads as it did. -/
def fnExactQuorumFaultSpec : ChangeSpec := { name := "fnExactQuorumFault", fn := fun _ => fun
  | [d] => { results := [.lit (.bool true)], args := [d] }
  | _ => none }
def fnExactQuorumFaultRow : OpenClaim := { program := "ytnimfjkhbgkdmaa", sum := "523fccc345afacd7f2d66ec26fd11d8c8c9137a6ab3d382972dc28768bdcbe3c", func := "loop.example/g00304/laws.FnExactQuorumFault", spec := "fnExactQuorumFault", unfollowed := true, recurses := true, apart := false }
def FnExactQuorumFaultSaid : Prop := fnExactQuorumFaultRow.holds Try.pinned (OpenSpec.ofChange fnExactQuorumFaultSpec)

/-- ITS FALSE NEIGHBOUR: 'it returns false'. Refute it at one input. -/
def fnExactQuorumFaultWrong : ChangeSpec := { name := "fnExactQuorumFault", fn := fun _ => fun
  | [d] => { results := [.lit (.bool false)], args := [d] }
  | _ => none }
def FnExactQuorumFaultWrongFalsely : Prop := fnExactQuorumFaultRow.holds Try.pinned (OpenSpec.ofChange fnExactQuorumFaultWrong)

/-- 'laws.FnExactMeetOf': WHATEVER THE INPUT: true; the input reads as it did. -/
def fnExactMeetOfSpec : ChangeSpec := { name := "fnExactMeetOf", fn := fun _ => fun
  | [d1, d2] => { results := [.lit (.bool true)], args := [d1, d2] }
  | _ => none }
def fnExactMeetOfRow : OpenClaim := { program := "ytnimfjkhbgkdmaa", sum := "523fccc345afacd7f2d66ec26fd11d8c8c9137a6ab3d382972dc28768bdcbe3c", func := "loop.example/g00304/laws.FnExactMeetOf", spec := "fnExactMeetOf", unfollowed := true, recurses := true, apart := false }
def FnExactMeetOfSaid : Prop := fnExactMeetOfRow.holds Try.pinned (OpenSpec.ofChange fnExactMeetOfSpec)

/-- ITS FALSE NEIGHBOUR: 'it returns false'. Refute it at one input. -/
def fnExactMeetOfWrong : ChangeSpec := { name := "fnExactMeetOf", fn := fun _ => fun
  | [d1, d2] => { results := [.lit (.bool false)], args := [d1, d2] }
  | _ => none }
def FnExactMeetOfWrongFalsely : Prop := fnExactMeetOfRow.holds Try.pinned (OpenSpec.ofChange fnExactMeetOfWrong)

/-- 'laws.FnExactNewVoter': WHATEVER THE INPUT: true; the input reads as it did. -/
def fnExactNewVoterSpec : ChangeSpec := { name := "fnExactNewVoter", fn := fun _ => fun
  | [d] => { results := [.lit (.bool true)], args := [d] }
  | _ => none }
def fnExactNewVoterRow : OpenClaim := { program := "ytnimfjkhbgkdmaa", sum := "523fccc345afacd7f2d66ec26fd11d8c8c9137a6ab3d382972dc28768bdcbe3c", func := "loop.example/g00304/laws.FnExactNewVoter", spec := "fnExactNewVoter", apart := false }
def FnExactNewVoterSaid : Prop := fnExactNewVoterRow.holds Try.pinned (OpenSpec.ofChange fnExactNewVoterSpec)

/-- ITS FALSE NEIGHBOUR: 'it returns false'. Refute it at one input. -/
def fnExactNewVoterWrong : ChangeSpec := { name := "fnExactNewVoter", fn := fun _ => fun
  | [d] => { results := [.lit (.bool false)], args := [d] }
  | _ => none }
def FnExactNewVoterWrongFalsely : Prop := fnExactNewVoterRow.holds Try.pinned (OpenSpec.ofChange fnExactNewVoterWrong)

/- THE SECOND FORM. 'bulk': how many values and letters a reading holds, each counted each time it is reached (what is shared counts as often as it is met; a slice's spare places count too). A statement '..UptoSaid' is the law's where the arguments, and the package variables that the reading takes, are together of bulk at most 1048576: NARROWER than '..Said'. Prove '..Said' where nothing that the law and all that it calls make is longer than what came in: it says more and counts as full. Else prove '..UptoSaid'. A law counts once. -/
mutual
def uptoBulk {H : Type} : DataW H → Nat
  | .lit (.string bytes) => bytes.length + 1
  | .lit _ => 1
  | .nil => 1
  | .ptr d => uptoBulk d + 1
  | .slice elems spare => uptoBulkAll elems + uptoBulkAll spare + 1
  | .agg parts => uptoBulkAll parts + 1
  | .iface _ d => uptoBulk d + 1
  | .map entries => uptoBulkEntries entries + 1
  | .held _ => 1
def uptoBulkAll {H : Type} : List (DataW H) → Nat
  | [] => 0
  | d :: r => uptoBulk d + uptoBulkAll r
def uptoBulkEntries {H : Type} : List (Lit × DataW H) → Nat
  | [] => 0
  | x :: r => uptoBulkEntry x + uptoBulkEntries r
def uptoBulkEntry {H : Type} : Lit × DataW H → Nat
  | (.string bytes, d) => bytes.length + uptoBulk d + 1
  | (_, d) => uptoBulk d + 1
 end
def uptoSmall : (H : Type) → List (DataW H) → Bool := fun _ ds => decide (uptoBulkAll ds ≤ 1048576)
def OpenSpec.upto (s : _root_.Go.ChangeSpec) : _root_.Go.OpenSpec := { _root_.Go.OpenSpec.ofChange s with cond := some uptoSmall }

/-- 'laws.FnExactRankOf', WHERE WHAT IT READS IS OF BULK AT MOST 1048576: true; the input reads as it did. -/
def fnExactRankOfUptoRow : OpenClaim := { program := "ytnimfjkhbgkdmaa", sum := "523fccc345afacd7f2d66ec26fd11d8c8c9137a6ab3d382972dc28768bdcbe3c", func := "loop.example/g00304/laws.FnExactRankOf", spec := "fnExactRankOf", apart := false, narrowed := true }
def FnExactRankOfUptoSaid : Prop := fnExactRankOfUptoRow.holds Try.pinned (OpenSpec.upto fnExactRankOfSpec)

/-- 'laws.FnExactNeedOf', WHERE WHAT IT READS IS OF BULK AT MOST 1048576: true; the input reads as it did. -/
def fnExactNeedOfUptoRow : OpenClaim := { program := "ytnimfjkhbgkdmaa", sum := "523fccc345afacd7f2d66ec26fd11d8c8c9137a6ab3d382972dc28768bdcbe3c", func := "loop.example/g00304/laws.FnExactNeedOf", spec := "fnExactNeedOf", apart := false, narrowed := true }
def FnExactNeedOfUptoSaid : Prop := fnExactNeedOfUptoRow.holds Try.pinned (OpenSpec.upto fnExactNeedOfSpec)

/-- 'laws.FnExactVoteFault', WHERE WHAT IT READS IS OF BULK AT MOST 1048576: true; the input reads as it did. -/
def fnExactVoteFaultUptoRow : OpenClaim := { program := "ytnimfjkhbgkdmaa", sum := "523fccc345afacd7f2d66ec26fd11d8c8c9137a6ab3d382972dc28768bdcbe3c", func := "loop.example/g00304/laws.FnExactVoteFault", spec := "fnExactVoteFault", apart := false, narrowed := true }
def FnExactVoteFaultUptoSaid : Prop := fnExactVoteFaultUptoRow.holds Try.pinned (OpenSpec.upto fnExactVoteFaultSpec)

/-- 'laws.FnExactQuorumFault', WHERE WHAT IT READS IS OF BULK AT MOST 1048576: true; the input reads as it did. -/
def fnExactQuorumFaultUptoRow : OpenClaim := { program := "ytnimfjkhbgkdmaa", sum := "523fccc345afacd7f2d66ec26fd11d8c8c9137a6ab3d382972dc28768bdcbe3c", func := "loop.example/g00304/laws.FnExactQuorumFault", spec := "fnExactQuorumFault", unfollowed := true, recurses := true, apart := false, narrowed := true }
def FnExactQuorumFaultUptoSaid : Prop := fnExactQuorumFaultUptoRow.holds Try.pinned (OpenSpec.upto fnExactQuorumFaultSpec)

/-- 'laws.FnExactMeetOf', WHERE WHAT IT READS IS OF BULK AT MOST 1048576: true; the input reads as it did. -/
def fnExactMeetOfUptoRow : OpenClaim := { program := "ytnimfjkhbgkdmaa", sum := "523fccc345afacd7f2d66ec26fd11d8c8c9137a6ab3d382972dc28768bdcbe3c", func := "loop.example/g00304/laws.FnExactMeetOf", spec := "fnExactMeetOf", unfollowed := true, recurses := true, apart := false, narrowed := true }
def FnExactMeetOfUptoSaid : Prop := fnExactMeetOfUptoRow.holds Try.pinned (OpenSpec.upto fnExactMeetOfSpec)

/-- 'laws.FnExactNewVoter', WHERE WHAT IT READS IS OF BULK AT MOST 1048576: true; the input reads as it did. -/
def fnExactNewVoterUptoRow : OpenClaim := { program := "ytnimfjkhbgkdmaa", sum := "523fccc345afacd7f2d66ec26fd11d8c8c9137a6ab3d382972dc28768bdcbe3c", func := "loop.example/g00304/laws.FnExactNewVoter", spec := "fnExactNewVoter", apart := false, narrowed := true }
def FnExactNewVoterUptoSaid : Prop := fnExactNewVoterUptoRow.holds Try.pinned (OpenSpec.upto fnExactNewVoterSpec)

end Rows
end Go.Proofs.Ytnimfjkhbgkdmaa
