/-
  No cell of these rows narrows 'for every input' (looked for: loops, veiled, ifaces, maps, wideKeys, modest, calm, conditions, laid).
  DERIVED. THE GIVEN ROWS OF THIS SEAT. 8 by the template 'for every input the law returns true; each argument reads behind the call as it read before'; 0 by the template 'total and deterministic' (their statements: YtfggnccpbdfpeaaTotals.lean).
  GIVEN WITH THE SEED: the statements are not yours to turn. If you find one false, say at which input.
  Laid BY PROGRAM, IN A SANDBOX (cutbox-rows.mjs): the forced cells as the released guide's own fill.sh prints them over the translation 704fbc26fe6403f8… (all of the seat's roots in one cut). By AI agents, Wed Nov 11 2026. No macro, syntax, notation, axiom, sorry.
-/
import Derived.Test.YtfggnccpbdfpeaaChecked
import GoSem.Claim
import GoSem.ClaimJoined
import GoSem.ClaimMapViews
import Derived.JoinedTies
import Derived.KernelRfl
namespace Go.Proofs.Ytfggnccpbdfpeaa
/- THE CELL 'sum', in the pinned program and in every row, IS THE sha256 OF THE DUMP (.gsa) THAT YtfggnccpbdfpeaaProg.lean LOADS. Nothing in Lean hashes anything: it is a label: what it is worth is what the hold of that sum in a sandbox is worth. -/
noncomputable def Try.pinned : Pinned := { name := "ytfggnccpbdfpeaa", sum := "704fbc26fe6403f85aff08374ba61d6360679fe25d45aa76cd14b8949539f637", checked := Try.checked }
namespace Rows
def none {H : Type} : Left H := { results := [], args := [] }

/-- 'laws.FnBests': WHATEVER THE INPUT: true; the input reads as it did. -/
def fnBestsSpec : ChangeSpec := { name := "fnBests", fn := fun _ => fun
  | [d] => { results := [.lit (.bool true)], args := [d] }
  | _ => none }
def fnBestsRow : OpenClaim := { program := "ytfggnccpbdfpeaa", sum := "704fbc26fe6403f85aff08374ba61d6360679fe25d45aa76cd14b8949539f637", func := "loop.example/g00304/laws.FnBests", spec := "fnBests", unfollowed := true, recurses := true, apart := false }
def FnBestsSaid : Prop := fnBestsRow.holds Try.pinned (OpenSpec.ofChange fnBestsSpec)

/-- ITS FALSE NEIGHBOUR: 'it returns false'. Refute it at one input. -/
def fnBestsWrong : ChangeSpec := { name := "fnBests", fn := fun _ => fun
  | [d] => { results := [.lit (.bool false)], args := [d] }
  | _ => none }
def FnBestsWrongFalsely : Prop := fnBestsRow.holds Try.pinned (OpenSpec.ofChange fnBestsWrong)

/-- 'laws.FnExactSignId': WHATEVER THE INPUT: true; the input reads as it did. -/
def fnExactSignIdSpec : ChangeSpec := { name := "fnExactSignId", fn := fun _ => fun
  | [d1, d2, d3] => { results := [.lit (.bool true)], args := [d1, d2, d3] }
  | _ => none }
def fnExactSignIdRow : OpenClaim := { program := "ytfggnccpbdfpeaa", sum := "704fbc26fe6403f85aff08374ba61d6360679fe25d45aa76cd14b8949539f637", func := "loop.example/g00304/laws.FnExactSignId", spec := "fnExactSignId", apart := false }
def FnExactSignIdSaid : Prop := fnExactSignIdRow.holds Try.pinned (OpenSpec.ofChange fnExactSignIdSpec)

/-- ITS FALSE NEIGHBOUR: 'it returns false'. Refute it at one input. -/
def fnExactSignIdWrong : ChangeSpec := { name := "fnExactSignId", fn := fun _ => fun
  | [d1, d2, d3] => { results := [.lit (.bool false)], args := [d1, d2, d3] }
  | _ => none }
def FnExactSignIdWrongFalsely : Prop := fnExactSignIdRow.holds Try.pinned (OpenSpec.ofChange fnExactSignIdWrong)

/-- 'laws.FnExactRuleMet': WHATEVER THE INPUT: true; the input reads as it did. -/
def fnExactRuleMetSpec : ChangeSpec := { name := "fnExactRuleMet", fn := fun _ => fun
  | [d1, d2, d3, d4] => { results := [.lit (.bool true)], args := [d1, d2, d3, d4] }
  | _ => none }
def fnExactRuleMetRow : OpenClaim := { program := "ytfggnccpbdfpeaa", sum := "704fbc26fe6403f85aff08374ba61d6360679fe25d45aa76cd14b8949539f637", func := "loop.example/g00304/laws.FnExactRuleMet", spec := "fnExactRuleMet", unfollowed := true, recurses := true, apart := false }
def FnExactRuleMetSaid : Prop := fnExactRuleMetRow.holds Try.pinned (OpenSpec.ofChange fnExactRuleMetSpec)

/-- ITS FALSE NEIGHBOUR: 'it returns false'. Refute it at one input. -/
def fnExactRuleMetWrong : ChangeSpec := { name := "fnExactRuleMet", fn := fun _ => fun
  | [d1, d2, d3, d4] => { results := [.lit (.bool false)], args := [d1, d2, d3, d4] }
  | _ => none }
def FnExactRuleMetWrongFalsely : Prop := fnExactRuleMetRow.holds Try.pinned (OpenSpec.ofChange fnExactRuleMetWrong)

/-- 'laws.FnCasts': WHATEVER THE INPUT: true; the input reads as it did. -/
def fnCastsSpec : ChangeSpec := { name := "fnCasts", fn := fun _ => fun
  | [d] => { results := [.lit (.bool true)], args := [d] }
  | _ => none }
def fnCastsRow : OpenClaim := { program := "ytfggnccpbdfpeaa", sum := "704fbc26fe6403f85aff08374ba61d6360679fe25d45aa76cd14b8949539f637", func := "loop.example/g00304/laws.FnCasts", spec := "fnCasts", unfollowed := true, recurses := true, apart := false }
def FnCastsSaid : Prop := fnCastsRow.holds Try.pinned (OpenSpec.ofChange fnCastsSpec)

/-- ITS FALSE NEIGHBOUR: 'it returns false'. Refute it at one input. -/
def fnCastsWrong : ChangeSpec := { name := "fnCasts", fn := fun _ => fun
  | [d] => { results := [.lit (.bool false)], args := [d] }
  | _ => none }
def FnCastsWrongFalsely : Prop := fnCastsRow.holds Try.pinned (OpenSpec.ofChange fnCastsWrong)

/-- 'laws.FnExactCastFor': WHATEVER THE INPUT: true; the input reads as it did. -/
def fnExactCastForSpec : ChangeSpec := { name := "fnExactCastFor", fn := fun _ => fun
  | [d1, d2, d3] => { results := [.lit (.bool true)], args := [d1, d2, d3] }
  | _ => none }
def fnExactCastForRow : OpenClaim := { program := "ytfggnccpbdfpeaa", sum := "704fbc26fe6403f85aff08374ba61d6360679fe25d45aa76cd14b8949539f637", func := "loop.example/g00304/laws.FnExactCastFor", spec := "fnExactCastFor", unfollowed := true, recurses := true, apart := false }
def FnExactCastForSaid : Prop := fnExactCastForRow.holds Try.pinned (OpenSpec.ofChange fnExactCastForSpec)

/-- ITS FALSE NEIGHBOUR: 'it returns false'. Refute it at one input. -/
def fnExactCastForWrong : ChangeSpec := { name := "fnExactCastFor", fn := fun _ => fun
  | [d1, d2, d3] => { results := [.lit (.bool false)], args := [d1, d2, d3] }
  | _ => none }
def FnExactCastForWrongFalsely : Prop := fnExactCastForRow.holds Try.pinned (OpenSpec.ofChange fnExactCastForWrong)

/-- 'laws.FnExactChooseQuorum': WHATEVER THE INPUT: true; the input reads as it did. -/
def fnExactChooseQuorumSpec : ChangeSpec := { name := "fnExactChooseQuorum", fn := fun _ => fun
  | [d1, d2, d3] => { results := [.lit (.bool true)], args := [d1, d2, d3] }
  | _ => none }
def fnExactChooseQuorumRow : OpenClaim := { program := "ytfggnccpbdfpeaa", sum := "704fbc26fe6403f85aff08374ba61d6360679fe25d45aa76cd14b8949539f637", func := "loop.example/g00304/laws.FnExactChooseQuorum", spec := "fnExactChooseQuorum", unfollowed := true, recurses := true, apart := false }
def FnExactChooseQuorumSaid : Prop := fnExactChooseQuorumRow.holds Try.pinned (OpenSpec.ofChange fnExactChooseQuorumSpec)

/-- ITS FALSE NEIGHBOUR: 'it returns false'. Refute it at one input. -/
def fnExactChooseQuorumWrong : ChangeSpec := { name := "fnExactChooseQuorum", fn := fun _ => fun
  | [d1, d2, d3] => { results := [.lit (.bool false)], args := [d1, d2, d3] }
  | _ => none }
def FnExactChooseQuorumWrongFalsely : Prop := fnExactChooseQuorumRow.holds Try.pinned (OpenSpec.ofChange fnExactChooseQuorumWrong)

/-- 'laws.FnQuorums': WHATEVER THE INPUT: true; the input reads as it did. -/
def fnQuorumsSpec : ChangeSpec := { name := "fnQuorums", fn := fun _ => fun
  | [d] => { results := [.lit (.bool true)], args := [d] }
  | _ => none }
def fnQuorumsRow : OpenClaim := { program := "ytfggnccpbdfpeaa", sum := "704fbc26fe6403f85aff08374ba61d6360679fe25d45aa76cd14b8949539f637", func := "loop.example/g00304/laws.FnQuorums", spec := "fnQuorums", unfollowed := true, recurses := true, apart := false }
def FnQuorumsSaid : Prop := fnQuorumsRow.holds Try.pinned (OpenSpec.ofChange fnQuorumsSpec)

/-- ITS FALSE NEIGHBOUR: 'it returns false'. Refute it at one input. -/
def fnQuorumsWrong : ChangeSpec := { name := "fnQuorums", fn := fun _ => fun
  | [d] => { results := [.lit (.bool false)], args := [d] }
  | _ => none }
def FnQuorumsWrongFalsely : Prop := fnQuorumsRow.holds Try.pinned (OpenSpec.ofChange fnQuorumsWrong)

/-- 'laws.FnExactNewCluster': WHATEVER THE INPUT: true; the input reads as it did. -/
def fnExactNewClusterSpec : ChangeSpec := { name := "fnExactNewCluster", fn := fun _ => fun
  | [d1, d2, d3] => { results := [.lit (.bool true)], args := [d1, d2, d3] }
  | _ => none }
def fnExactNewClusterRow : OpenClaim := { program := "ytfggnccpbdfpeaa", sum := "704fbc26fe6403f85aff08374ba61d6360679fe25d45aa76cd14b8949539f637", func := "loop.example/g00304/laws.FnExactNewCluster", spec := "fnExactNewCluster", unfollowed := true, recurses := true, apart := false }
def FnExactNewClusterSaid : Prop := fnExactNewClusterRow.holds Try.pinned (OpenSpec.ofChange fnExactNewClusterSpec)

/-- ITS FALSE NEIGHBOUR: 'it returns false'. Refute it at one input. -/
def fnExactNewClusterWrong : ChangeSpec := { name := "fnExactNewCluster", fn := fun _ => fun
  | [d1, d2, d3] => { results := [.lit (.bool false)], args := [d1, d2, d3] }
  | _ => none }
def FnExactNewClusterWrongFalsely : Prop := fnExactNewClusterRow.holds Try.pinned (OpenSpec.ofChange fnExactNewClusterWrong)

/- THE SECOND FORM. 'bulk': how many values and letters a reading holds, each counted each time it is reached (what is shared counts as often as it is met; a slice's spare places count too). A statement '..UptoSaid' is the law's where the arguments, and the package variables that the reading takes, are together of bulk at most 1048576: NARROWER than '..Said'. Prove '..Said' where nothing that the law and all that it calls make is longer than what came in: it says more and counts as full. Else prove '..UptoSaid'. A law counts once. -/
mutual
def uptoBulk {H : Type} : DataW H → Nat
  | .lit (.string bytes) => bytes.length + 1
  | .lit _ => 1
  | .nil => 1
  | .ptr d => uptoBulk d + 1
  | .slice elems spare => uptoBulkAll elems + uptoBulkAll spare + 1
  | .agg parts => uptoBulkAll parts + 1
  | .iface _ d => uptoBulk d + 1
  | .map entries => uptoBulkEntries entries + 1
  | .held _ => 1
def uptoBulkAll {H : Type} : List (DataW H) → Nat
  | [] => 0
  | d :: r => uptoBulk d + uptoBulkAll r
def uptoBulkEntries {H : Type} : List (Lit × DataW H) → Nat
  | [] => 0
  | x :: r => uptoBulkEntry x + uptoBulkEntries r
def uptoBulkEntry {H : Type} : Lit × DataW H → Nat
  | (.string bytes, d) => bytes.length + uptoBulk d + 1
  | (_, d) => uptoBulk d + 1
 end
def uptoSmall : (H : Type) → List (DataW H) → Bool := fun _ ds => decide (uptoBulkAll ds ≤ 1048576)
def OpenSpec.upto (s : _root_.Go.ChangeSpec) : _root_.Go.OpenSpec := { _root_.Go.OpenSpec.ofChange s with cond := some uptoSmall }

/-- 'laws.FnBests', WHERE WHAT IT READS IS OF BULK AT MOST 1048576: true; the input reads as it did. -/
def fnBestsUptoRow : OpenClaim := { program := "ytfggnccpbdfpeaa", sum := "704fbc26fe6403f85aff08374ba61d6360679fe25d45aa76cd14b8949539f637", func := "loop.example/g00304/laws.FnBests", spec := "fnBests", unfollowed := true, recurses := true, apart := false, narrowed := true }
def FnBestsUptoSaid : Prop := fnBestsUptoRow.holds Try.pinned (OpenSpec.upto fnBestsSpec)

/-- 'laws.FnExactSignId', WHERE WHAT IT READS IS OF BULK AT MOST 1048576: true; the input reads as it did. -/
def fnExactSignIdUptoRow : OpenClaim := { program := "ytfggnccpbdfpeaa", sum := "704fbc26fe6403f85aff08374ba61d6360679fe25d45aa76cd14b8949539f637", func := "loop.example/g00304/laws.FnExactSignId", spec := "fnExactSignId", apart := false, narrowed := true }
def FnExactSignIdUptoSaid : Prop := fnExactSignIdUptoRow.holds Try.pinned (OpenSpec.upto fnExactSignIdSpec)

/-- 'laws.FnExactRuleMet', WHERE WHAT IT READS IS OF BULK AT MOST 1048576: true; the input reads as it did. -/
def fnExactRuleMetUptoRow : OpenClaim := { program := "ytfggnccpbdfpeaa", sum := "704fbc26fe6403f85aff08374ba61d6360679fe25d45aa76cd14b8949539f637", func := "loop.example/g00304/laws.FnExactRuleMet", spec := "fnExactRuleMet", unfollowed := true, recurses := true, apart := false, narrowed := true }
def FnExactRuleMetUptoSaid : Prop := fnExactRuleMetUptoRow.holds Try.pinned (OpenSpec.upto fnExactRuleMetSpec)

/-- 'laws.FnCasts', WHERE WHAT IT READS IS OF BULK AT MOST 1048576: true; the input reads as it did. -/
def fnCastsUptoRow : OpenClaim := { program := "ytfggnccpbdfpeaa", sum := "704fbc26fe6403f85aff08374ba61d6360679fe25d45aa76cd14b8949539f637", func := "loop.example/g00304/laws.FnCasts", spec := "fnCasts", unfollowed := true, recurses := true, apart := false, narrowed := true }
def FnCastsUptoSaid : Prop := fnCastsUptoRow.holds Try.pinned (OpenSpec.upto fnCastsSpec)

/-- 'laws.FnExactCastFor', WHERE WHAT IT READS IS OF BULK AT MOST 1048576: true; the input reads as it did. -/
def fnExactCastForUptoRow : OpenClaim := { program := "ytfggnccpbdfpeaa", sum := "704fbc26fe6403f85aff08374ba61d6360679fe25d45aa76cd14b8949539f637", func := "loop.example/g00304/laws.FnExactCastFor", spec := "fnExactCastFor", unfollowed := true, recurses := true, apart := false, narrowed := true }
def FnExactCastForUptoSaid : Prop := fnExactCastForUptoRow.holds Try.pinned (OpenSpec.upto fnExactCastForSpec)

/-- 'laws.FnExactChooseQuorum', WHERE WHAT IT READS IS OF BULK AT MOST 1048576: true; the input reads as it did. -/
def fnExactChooseQuorumUptoRow : OpenClaim := { program := "ytfggnccpbdfpeaa", sum := "704fbc26fe6403f85aff08374ba61d6360679fe25d45aa76cd14b8949539f637", func := "loop.example/g00304/laws.FnExactChooseQuorum", spec := "fnExactChooseQuorum", unfollowed := true, recurses := true, apart := false, narrowed := true }
def FnExactChooseQuorumUptoSaid : Prop := fnExactChooseQuorumUptoRow.holds Try.pinned (OpenSpec.upto fnExactChooseQuorumSpec)

/-- 'laws.FnQuorums', WHERE WHAT IT READS IS OF BULK AT MOST 1048576: true; the input reads as it did. -/
def fnQuorumsUptoRow : OpenClaim := { program := "ytfggnccpbdfpeaa", sum := "704fbc26fe6403f85aff08374ba61d6360679fe25d45aa76cd14b8949539f637", func := "loop.example/g00304/laws.FnQuorums", spec := "fnQuorums", unfollowed := true, recurses := true, apart := false, narrowed := true }
def FnQuorumsUptoSaid : Prop := fnQuorumsUptoRow.holds Try.pinned (OpenSpec.upto fnQuorumsSpec)

/-- 'laws.FnExactNewCluster', WHERE WHAT IT READS IS OF BULK AT MOST 1048576: true; the input reads as it did. -/
def fnExactNewClusterUptoRow : OpenClaim := { program := "ytfggnccpbdfpeaa", sum := "704fbc26fe6403f85aff08374ba61d6360679fe25d45aa76cd14b8949539f637", func := "loop.example/g00304/laws.FnExactNewCluster", spec := "fnExactNewCluster", unfollowed := true, recurses := true, apart := false, narrowed := true }
def FnExactNewClusterUptoSaid : Prop := fnExactNewClusterUptoRow.holds Try.pinned (OpenSpec.upto fnExactNewClusterSpec)

end Rows
end Go.Proofs.Ytfggnccpbdfpeaa
