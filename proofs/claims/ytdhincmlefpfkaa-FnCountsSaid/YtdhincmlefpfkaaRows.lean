/-
  No cell of these rows narrows 'for every input' (looked for: loops, veiled, ifaces, maps, wideKeys, modest, calm, conditions, laid).
  DERIVED. THE GIVEN ROWS OF THIS SEAT. 12 by the template 'for every input the law returns true; each argument reads behind the call as it read before'; 0 by the template 'total and deterministic' (their statements: YtdhincmlefpfkaaTotals.lean).
  GIVEN WITH THE SEED: the statements are not yours to turn. If you find one false, say at which input.
  Laid BY PROGRAM, IN A SANDBOX (cutbox-rows.mjs): the forced cells as the released guide's own fill.sh prints them over the translation c219b89ea8c00f67… (all of the seat's roots in one cut). By AI agents, Wed Nov 11 2026. No macro, syntax, notation, axiom, sorry.
-/
import Derived.Test.YtdhincmlefpfkaaChecked
import GoSem.Claim
import GoSem.ClaimJoined
import GoSem.ClaimMapViews
import Derived.JoinedTies
import Derived.KernelRfl
namespace Go.Proofs.Ytdhincmlefpfkaa
/- THE CELL 'sum', in the pinned program and in every row, IS THE sha256 OF THE DUMP (.gsa) THAT YtdhincmlefpfkaaProg.lean LOADS. Nothing in Lean hashes anything: it is a label: what it is worth is what the hold of that sum in a sandbox is worth. -/
noncomputable def Try.pinned : Pinned := { name := "ytdhincmlefpfkaa", sum := "c219b89ea8c00f672e1e194702b6a3cec8e9d7516ae737126a7038fd04916960", checked := Try.checked }
namespace Rows
def none {H : Type} : Left H := { results := [], args := [] }

/-- 'laws.FnMeets': WHATEVER THE INPUT: true; the input reads as it did. -/
def fnMeetsSpec : ChangeSpec := { name := "fnMeets", fn := fun _ => fun
  | [d] => { results := [.lit (.bool true)], args := [d] }
  | _ => none }
def fnMeetsRow : OpenClaim := { program := "ytdhincmlefpfkaa", sum := "c219b89ea8c00f672e1e194702b6a3cec8e9d7516ae737126a7038fd04916960", func := "loop.example/g00304/laws.FnMeets", spec := "fnMeets", unfollowed := true, recurses := true, apart := false }
def FnMeetsSaid : Prop := fnMeetsRow.holds Try.pinned (OpenSpec.ofChange fnMeetsSpec)

/-- ITS FALSE NEIGHBOUR: 'it returns false'. Refute it at one input. -/
def fnMeetsWrong : ChangeSpec := { name := "fnMeets", fn := fun _ => fun
  | [d] => { results := [.lit (.bool false)], args := [d] }
  | _ => none }
def FnMeetsWrongFalsely : Prop := fnMeetsRow.holds Try.pinned (OpenSpec.ofChange fnMeetsWrong)

/-- 'laws.FnExactAddNode': WHATEVER THE INPUT: true; the input reads as it did. -/
def fnExactAddNodeSpec : ChangeSpec := { name := "fnExactAddNode", fn := fun _ => fun
  | [d1, d2] => { results := [.lit (.bool true)], args := [d1, d2] }
  | _ => none }
def fnExactAddNodeRow : OpenClaim := { program := "ytdhincmlefpfkaa", sum := "c219b89ea8c00f672e1e194702b6a3cec8e9d7516ae737126a7038fd04916960", func := "loop.example/g00304/laws.FnExactAddNode", spec := "fnExactAddNode", unfollowed := true, recurses := true, apart := false }
def FnExactAddNodeSaid : Prop := fnExactAddNodeRow.holds Try.pinned (OpenSpec.ofChange fnExactAddNodeSpec)

/-- ITS FALSE NEIGHBOUR: 'it returns false'. Refute it at one input. -/
def fnExactAddNodeWrong : ChangeSpec := { name := "fnExactAddNode", fn := fun _ => fun
  | [d1, d2] => { results := [.lit (.bool false)], args := [d1, d2] }
  | _ => none }
def FnExactAddNodeWrongFalsely : Prop := fnExactAddNodeRow.holds Try.pinned (OpenSpec.ofChange fnExactAddNodeWrong)

/-- 'laws.FnLedgers': WHATEVER THE INPUT: true; the input reads as it did. -/
def fnLedgersSpec : ChangeSpec := { name := "fnLedgers", fn := fun _ => fun
  | [d] => { results := [.lit (.bool true)], args := [d] }
  | _ => none }
def fnLedgersRow : OpenClaim := { program := "ytdhincmlefpfkaa", sum := "c219b89ea8c00f672e1e194702b6a3cec8e9d7516ae737126a7038fd04916960", func := "loop.example/g00304/laws.FnLedgers", spec := "fnLedgers", apart := false }
def FnLedgersSaid : Prop := fnLedgersRow.holds Try.pinned (OpenSpec.ofChange fnLedgersSpec)

/-- ITS FALSE NEIGHBOUR: 'it returns false'. Refute it at one input. -/
def fnLedgersWrong : ChangeSpec := { name := "fnLedgers", fn := fun _ => fun
  | [d] => { results := [.lit (.bool false)], args := [d] }
  | _ => none }
def FnLedgersWrongFalsely : Prop := fnLedgersRow.holds Try.pinned (OpenSpec.ofChange fnLedgersWrong)

/-- 'laws.FnSigns': WHATEVER THE INPUT: true; the input reads as it did. -/
def fnSignsSpec : ChangeSpec := { name := "fnSigns", fn := fun _ => fun
  | [d] => { results := [.lit (.bool true)], args := [d] }
  | _ => none }
def fnSignsRow : OpenClaim := { program := "ytdhincmlefpfkaa", sum := "c219b89ea8c00f672e1e194702b6a3cec8e9d7516ae737126a7038fd04916960", func := "loop.example/g00304/laws.FnSigns", spec := "fnSigns", apart := false }
def FnSignsSaid : Prop := fnSignsRow.holds Try.pinned (OpenSpec.ofChange fnSignsSpec)

/-- ITS FALSE NEIGHBOUR: 'it returns false'. Refute it at one input. -/
def fnSignsWrong : ChangeSpec := { name := "fnSigns", fn := fun _ => fun
  | [d] => { results := [.lit (.bool false)], args := [d] }
  | _ => none }
def FnSignsWrongFalsely : Prop := fnSignsRow.holds Try.pinned (OpenSpec.ofChange fnSignsWrong)

/-- 'laws.FnExactPathTo': WHATEVER THE INPUT: true; the input reads as it did. -/
def fnExactPathToSpec : ChangeSpec := { name := "fnExactPathTo", fn := fun _ => fun
  | [d1, d2] => { results := [.lit (.bool true)], args := [d1, d2] }
  | _ => none }
def fnExactPathToRow : OpenClaim := { program := "ytdhincmlefpfkaa", sum := "c219b89ea8c00f672e1e194702b6a3cec8e9d7516ae737126a7038fd04916960", func := "loop.example/g00304/laws.FnExactPathTo", spec := "fnExactPathTo", unfollowed := true, recurses := true, apart := false }
def FnExactPathToSaid : Prop := fnExactPathToRow.holds Try.pinned (OpenSpec.ofChange fnExactPathToSpec)

/-- ITS FALSE NEIGHBOUR: 'it returns false'. Refute it at one input. -/
def fnExactPathToWrong : ChangeSpec := { name := "fnExactPathTo", fn := fun _ => fun
  | [d1, d2] => { results := [.lit (.bool false)], args := [d1, d2] }
  | _ => none }
def FnExactPathToWrongFalsely : Prop := fnExactPathToRow.holds Try.pinned (OpenSpec.ofChange fnExactPathToWrong)

/-- 'laws.FnTrees': WHATEVER THE INPUT: true; the input reads as it did. -/
def fnTreesSpec : ChangeSpec := { name := "fnTrees", fn := fun _ => fun
  | [d] => { results := [.lit (.bool true)], args := [d] }
  | _ => none }
def fnTreesRow : OpenClaim := { program := "ytdhincmlefpfkaa", sum := "c219b89ea8c00f672e1e194702b6a3cec8e9d7516ae737126a7038fd04916960", func := "loop.example/g00304/laws.FnTrees", spec := "fnTrees", unfollowed := true, recurses := true, apart := false }
def FnTreesSaid : Prop := fnTreesRow.holds Try.pinned (OpenSpec.ofChange fnTreesSpec)

/-- ITS FALSE NEIGHBOUR: 'it returns false'. Refute it at one input. -/
def fnTreesWrong : ChangeSpec := { name := "fnTrees", fn := fun _ => fun
  | [d] => { results := [.lit (.bool false)], args := [d] }
  | _ => none }
def FnTreesWrongFalsely : Prop := fnTreesRow.holds Try.pinned (OpenSpec.ofChange fnTreesWrong)

/-- 'laws.FnCounts': WHATEVER THE INPUT: true; the input reads as it did. -/
def fnCountsSpec : ChangeSpec := { name := "fnCounts", fn := fun _ => fun
  | [d] => { results := [.lit (.bool true)], args := [d] }
  | _ => none }
def fnCountsRow : OpenClaim := { program := "ytdhincmlefpfkaa", sum := "c219b89ea8c00f672e1e194702b6a3cec8e9d7516ae737126a7038fd04916960", func := "loop.example/g00304/laws.FnCounts", spec := "fnCounts", unfollowed := true, recurses := true, apart := false }
def FnCountsSaid : Prop := fnCountsRow.holds Try.pinned (OpenSpec.ofChange fnCountsSpec)

/-- ITS FALSE NEIGHBOUR: 'it returns false'. Refute it at one input. -/
def fnCountsWrong : ChangeSpec := { name := "fnCounts", fn := fun _ => fun
  | [d] => { results := [.lit (.bool false)], args := [d] }
  | _ => none }
def FnCountsWrongFalsely : Prop := fnCountsRow.holds Try.pinned (OpenSpec.ofChange fnCountsWrong)

/-- 'laws.FnExactBestOf': WHATEVER THE INPUT: true; the input reads as it did. -/
def fnExactBestOfSpec : ChangeSpec := { name := "fnExactBestOf", fn := fun _ => fun
  | [d1, d2] => { results := [.lit (.bool true)], args := [d1, d2] }
  | _ => none }
def fnExactBestOfRow : OpenClaim := { program := "ytdhincmlefpfkaa", sum := "c219b89ea8c00f672e1e194702b6a3cec8e9d7516ae737126a7038fd04916960", func := "loop.example/g00304/laws.FnExactBestOf", spec := "fnExactBestOf", unfollowed := true, recurses := true, apart := false }
def FnExactBestOfSaid : Prop := fnExactBestOfRow.holds Try.pinned (OpenSpec.ofChange fnExactBestOfSpec)

/-- ITS FALSE NEIGHBOUR: 'it returns false'. Refute it at one input. -/
def fnExactBestOfWrong : ChangeSpec := { name := "fnExactBestOf", fn := fun _ => fun
  | [d1, d2] => { results := [.lit (.bool false)], args := [d1, d2] }
  | _ => none }
def FnExactBestOfWrongFalsely : Prop := fnExactBestOfRow.holds Try.pinned (OpenSpec.ofChange fnExactBestOfWrong)

/-- 'laws.FnExactIsLocked': WHATEVER THE INPUT: true; the input reads as it did. -/
def fnExactIsLockedSpec : ChangeSpec := { name := "fnExactIsLocked", fn := fun _ => fun
  | [d1, d2, d3] => { results := [.lit (.bool true)], args := [d1, d2, d3] }
  | _ => none }
def fnExactIsLockedRow : OpenClaim := { program := "ytdhincmlefpfkaa", sum := "c219b89ea8c00f672e1e194702b6a3cec8e9d7516ae737126a7038fd04916960", func := "loop.example/g00304/laws.FnExactIsLocked", spec := "fnExactIsLocked", unfollowed := true, recurses := true, apart := false }
def FnExactIsLockedSaid : Prop := fnExactIsLockedRow.holds Try.pinned (OpenSpec.ofChange fnExactIsLockedSpec)

/-- ITS FALSE NEIGHBOUR: 'it returns false'. Refute it at one input. -/
def fnExactIsLockedWrong : ChangeSpec := { name := "fnExactIsLocked", fn := fun _ => fun
  | [d1, d2, d3] => { results := [.lit (.bool false)], args := [d1, d2, d3] }
  | _ => none }
def FnExactIsLockedWrongFalsely : Prop := fnExactIsLockedRow.holds Try.pinned (OpenSpec.ofChange fnExactIsLockedWrong)

/-- 'laws.FnExactCountFor': WHATEVER THE INPUT: true; the input reads as it did. -/
def fnExactCountForSpec : ChangeSpec := { name := "fnExactCountFor", fn := fun _ => fun
  | [d1, d2, d3] => { results := [.lit (.bool true)], args := [d1, d2, d3] }
  | _ => none }
def fnExactCountForRow : OpenClaim := { program := "ytdhincmlefpfkaa", sum := "c219b89ea8c00f672e1e194702b6a3cec8e9d7516ae737126a7038fd04916960", func := "loop.example/g00304/laws.FnExactCountFor", spec := "fnExactCountFor", unfollowed := true, recurses := true, apart := false }
def FnExactCountForSaid : Prop := fnExactCountForRow.holds Try.pinned (OpenSpec.ofChange fnExactCountForSpec)

/-- ITS FALSE NEIGHBOUR: 'it returns false'. Refute it at one input. -/
def fnExactCountForWrong : ChangeSpec := { name := "fnExactCountFor", fn := fun _ => fun
  | [d1, d2, d3] => { results := [.lit (.bool false)], args := [d1, d2, d3] }
  | _ => none }
def FnExactCountForWrongFalsely : Prop := fnExactCountForRow.holds Try.pinned (OpenSpec.ofChange fnExactCountForWrong)

/-- 'laws.FnExactSignsOf': WHATEVER THE INPUT: true; the input reads as it did. -/
def fnExactSignsOfSpec : ChangeSpec := { name := "fnExactSignsOf", fn := fun _ => fun
  | [d1, d2] => { results := [.lit (.bool true)], args := [d1, d2] }
  | _ => none }
def fnExactSignsOfRow : OpenClaim := { program := "ytdhincmlefpfkaa", sum := "c219b89ea8c00f672e1e194702b6a3cec8e9d7516ae737126a7038fd04916960", func := "loop.example/g00304/laws.FnExactSignsOf", spec := "fnExactSignsOf", apart := false }
def FnExactSignsOfSaid : Prop := fnExactSignsOfRow.holds Try.pinned (OpenSpec.ofChange fnExactSignsOfSpec)

/-- ITS FALSE NEIGHBOUR: 'it returns false'. Refute it at one input. -/
def fnExactSignsOfWrong : ChangeSpec := { name := "fnExactSignsOf", fn := fun _ => fun
  | [d1, d2] => { results := [.lit (.bool false)], args := [d1, d2] }
  | _ => none }
def FnExactSignsOfWrongFalsely : Prop := fnExactSignsOfRow.holds Try.pinned (OpenSpec.ofChange fnExactSignsOfWrong)

/-- 'laws.FnExactChooseFor': WHATEVER THE INPUT: true; the input reads as it did. -/
def fnExactChooseForSpec : ChangeSpec := { name := "fnExactChooseFor", fn := fun _ => fun
  | [d1, d2, d3] => { results := [.lit (.bool true)], args := [d1, d2, d3] }
  | _ => none }
def fnExactChooseForRow : OpenClaim := { program := "ytdhincmlefpfkaa", sum := "c219b89ea8c00f672e1e194702b6a3cec8e9d7516ae737126a7038fd04916960", func := "loop.example/g00304/laws.FnExactChooseFor", spec := "fnExactChooseFor", unfollowed := true, recurses := true, apart := false }
def FnExactChooseForSaid : Prop := fnExactChooseForRow.holds Try.pinned (OpenSpec.ofChange fnExactChooseForSpec)

/-- ITS FALSE NEIGHBOUR: 'it returns false'. Refute it at one input. -/
def fnExactChooseForWrong : ChangeSpec := { name := "fnExactChooseFor", fn := fun _ => fun
  | [d1, d2, d3] => { results := [.lit (.bool false)], args := [d1, d2, d3] }
  | _ => none }
def FnExactChooseForWrongFalsely : Prop := fnExactChooseForRow.holds Try.pinned (OpenSpec.ofChange fnExactChooseForWrong)

/- THE SECOND FORM. 'bulk': how many values and letters a reading holds, each counted each time it is reached (what is shared counts as often as it is met; a slice's spare places count too). A statement '..UptoSaid' is the law's where the arguments, and the package variables that the reading takes, are together of bulk at most 1048576: NARROWER than '..Said'. Prove '..Said' where nothing that the law and all that it calls make is longer than what came in: it says more and counts as full. Else prove '..UptoSaid'. A law counts once. -/
mutual
def uptoBulk {H : Type} : DataW H → Nat
  | .lit (.string bytes) => bytes.length + 1
  | .lit _ => 1
  | .nil => 1
  | .ptr d => uptoBulk d + 1
  | .slice elems spare => uptoBulkAll elems + uptoBulkAll spare + 1
  | .agg parts => uptoBulkAll parts + 1
  | .iface _ d => uptoBulk d + 1
  | .map entries => uptoBulkEntries entries + 1
  | .held _ => 1
def uptoBulkAll {H : Type} : List (DataW H) → Nat
  | [] => 0
  | d :: r => uptoBulk d + uptoBulkAll r
def uptoBulkEntries {H : Type} : List (Lit × DataW H) → Nat
  | [] => 0
  | x :: r => uptoBulkEntry x + uptoBulkEntries r
def uptoBulkEntry {H : Type} : Lit × DataW H → Nat
  | (.string bytes, d) => bytes.length + uptoBulk d + 1
  | (_, d) => uptoBulk d + 1
 end
def uptoSmall : (H : Type) → List (DataW H) → Bool := fun _ ds => decide (uptoBulkAll ds ≤ 1048576)
def OpenSpec.upto (s : _root_.Go.ChangeSpec) : _root_.Go.OpenSpec := { _root_.Go.OpenSpec.ofChange s with cond := some uptoSmall }

/-- 'laws.FnMeets', WHERE WHAT IT READS IS OF BULK AT MOST 1048576: true; the input reads as it did. -/
def fnMeetsUptoRow : OpenClaim := { program := "ytdhincmlefpfkaa", sum := "c219b89ea8c00f672e1e194702b6a3cec8e9d7516ae737126a7038fd04916960", func := "loop.example/g00304/laws.FnMeets", spec := "fnMeets", unfollowed := true, recurses := true, apart := false, narrowed := true }
def FnMeetsUptoSaid : Prop := fnMeetsUptoRow.holds Try.pinned (OpenSpec.upto fnMeetsSpec)

/-- 'laws.FnExactAddNode', WHERE WHAT IT READS IS OF BULK AT MOST 1048576: true; the input reads as it did. -/
def fnExactAddNodeUptoRow : OpenClaim := { program := "ytdhincmlefpfkaa", sum := "c219b89ea8c00f672e1e194702b6a3cec8e9d7516ae737126a7038fd04916960", func := "loop.example/g00304/laws.FnExactAddNode", spec := "fnExactAddNode", unfollowed := true, recurses := true, apart := false, narrowed := true }
def FnExactAddNodeUptoSaid : Prop := fnExactAddNodeUptoRow.holds Try.pinned (OpenSpec.upto fnExactAddNodeSpec)

/-- 'laws.FnLedgers', WHERE WHAT IT READS IS OF BULK AT MOST 1048576: true; the input reads as it did. -/
def fnLedgersUptoRow : OpenClaim := { program := "ytdhincmlefpfkaa", sum := "c219b89ea8c00f672e1e194702b6a3cec8e9d7516ae737126a7038fd04916960", func := "loop.example/g00304/laws.FnLedgers", spec := "fnLedgers", apart := false, narrowed := true }
def FnLedgersUptoSaid : Prop := fnLedgersUptoRow.holds Try.pinned (OpenSpec.upto fnLedgersSpec)

/-- 'laws.FnSigns', WHERE WHAT IT READS IS OF BULK AT MOST 1048576: true; the input reads as it did. -/
def fnSignsUptoRow : OpenClaim := { program := "ytdhincmlefpfkaa", sum := "c219b89ea8c00f672e1e194702b6a3cec8e9d7516ae737126a7038fd04916960", func := "loop.example/g00304/laws.FnSigns", spec := "fnSigns", apart := false, narrowed := true }
def FnSignsUptoSaid : Prop := fnSignsUptoRow.holds Try.pinned (OpenSpec.upto fnSignsSpec)

/-- 'laws.FnExactPathTo', WHERE WHAT IT READS IS OF BULK AT MOST 1048576: true; the input reads as it did. -/
def fnExactPathToUptoRow : OpenClaim := { program := "ytdhincmlefpfkaa", sum := "c219b89ea8c00f672e1e194702b6a3cec8e9d7516ae737126a7038fd04916960", func := "loop.example/g00304/laws.FnExactPathTo", spec := "fnExactPathTo", unfollowed := true, recurses := true, apart := false, narrowed := true }
def FnExactPathToUptoSaid : Prop := fnExactPathToUptoRow.holds Try.pinned (OpenSpec.upto fnExactPathToSpec)

/-- 'laws.FnTrees', WHERE WHAT IT READS IS OF BULK AT MOST 1048576: true; the input reads as it did. -/
def fnTreesUptoRow : OpenClaim := { program := "ytdhincmlefpfkaa", sum := "c219b89ea8c00f672e1e194702b6a3cec8e9d7516ae737126a7038fd04916960", func := "loop.example/g00304/laws.FnTrees", spec := "fnTrees", unfollowed := true, recurses := true, apart := false, narrowed := true }
def FnTreesUptoSaid : Prop := fnTreesUptoRow.holds Try.pinned (OpenSpec.upto fnTreesSpec)

/-- 'laws.FnCounts', WHERE WHAT IT READS IS OF BULK AT MOST 1048576: true; the input reads as it did. -/
def fnCountsUptoRow : OpenClaim := { program := "ytdhincmlefpfkaa", sum := "c219b89ea8c00f672e1e194702b6a3cec8e9d7516ae737126a7038fd04916960", func := "loop.example/g00304/laws.FnCounts", spec := "fnCounts", unfollowed := true, recurses := true, apart := false, narrowed := true }
def FnCountsUptoSaid : Prop := fnCountsUptoRow.holds Try.pinned (OpenSpec.upto fnCountsSpec)

/-- 'laws.FnExactBestOf', WHERE WHAT IT READS IS OF BULK AT MOST 1048576: true; the input reads as it did. -/
def fnExactBestOfUptoRow : OpenClaim := { program := "ytdhincmlefpfkaa", sum := "c219b89ea8c00f672e1e194702b6a3cec8e9d7516ae737126a7038fd04916960", func := "loop.example/g00304/laws.FnExactBestOf", spec := "fnExactBestOf", unfollowed := true, recurses := true, apart := false, narrowed := true }
def FnExactBestOfUptoSaid : Prop := fnExactBestOfUptoRow.holds Try.pinned (OpenSpec.upto fnExactBestOfSpec)

/-- 'laws.FnExactIsLocked', WHERE WHAT IT READS IS OF BULK AT MOST 1048576: true; the input reads as it did. -/
def fnExactIsLockedUptoRow : OpenClaim := { program := "ytdhincmlefpfkaa", sum := "c219b89ea8c00f672e1e194702b6a3cec8e9d7516ae737126a7038fd04916960", func := "loop.example/g00304/laws.FnExactIsLocked", spec := "fnExactIsLocked", unfollowed := true, recurses := true, apart := false, narrowed := true }
def FnExactIsLockedUptoSaid : Prop := fnExactIsLockedUptoRow.holds Try.pinned (OpenSpec.upto fnExactIsLockedSpec)

/-- 'laws.FnExactCountFor', WHERE WHAT IT READS IS OF BULK AT MOST 1048576: true; the input reads as it did. -/
def fnExactCountForUptoRow : OpenClaim := { program := "ytdhincmlefpfkaa", sum := "c219b89ea8c00f672e1e194702b6a3cec8e9d7516ae737126a7038fd04916960", func := "loop.example/g00304/laws.FnExactCountFor", spec := "fnExactCountFor", unfollowed := true, recurses := true, apart := false, narrowed := true }
def FnExactCountForUptoSaid : Prop := fnExactCountForUptoRow.holds Try.pinned (OpenSpec.upto fnExactCountForSpec)

/-- 'laws.FnExactSignsOf', WHERE WHAT IT READS IS OF BULK AT MOST 1048576: true; the input reads as it did. -/
def fnExactSignsOfUptoRow : OpenClaim := { program := "ytdhincmlefpfkaa", sum := "c219b89ea8c00f672e1e194702b6a3cec8e9d7516ae737126a7038fd04916960", func := "loop.example/g00304/laws.FnExactSignsOf", spec := "fnExactSignsOf", apart := false, narrowed := true }
def FnExactSignsOfUptoSaid : Prop := fnExactSignsOfUptoRow.holds Try.pinned (OpenSpec.upto fnExactSignsOfSpec)

/-- 'laws.FnExactChooseFor', WHERE WHAT IT READS IS OF BULK AT MOST 1048576: true; the input reads as it did. -/
def fnExactChooseForUptoRow : OpenClaim := { program := "ytdhincmlefpfkaa", sum := "c219b89ea8c00f672e1e194702b6a3cec8e9d7516ae737126a7038fd04916960", func := "loop.example/g00304/laws.FnExactChooseFor", spec := "fnExactChooseFor", unfollowed := true, recurses := true, apart := false, narrowed := true }
def FnExactChooseForUptoSaid : Prop := fnExactChooseForUptoRow.holds Try.pinned (OpenSpec.upto fnExactChooseForSpec)

end Rows
end Go.Proofs.Ytdhincmlefpfkaa
