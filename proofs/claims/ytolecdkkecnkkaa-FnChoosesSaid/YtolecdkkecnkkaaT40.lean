/- Draws of voters: values, and the draw of CastFor. -/
import Derived.Test.YtolecdkkecnkkaaT38
set_option linter.unusedVariables false
set_option linter.unusedSimpArgs false
set_option maxRecDepth 100000
set_option maxHeartbeats 4000000
namespace Go.BM
open Go.Proofs Go.RowKit
attribute [local irreducible] ACalls AWp aops qops optK optP cK gateA condK mops qcallK PCalls loadV fldV idxV lenV slV storeH binS
theorem spec_l11Draw (xs : List TNode) (hn : xs.length ≤ 1048576) : DCalls Try.prog 96 60 25 [islE nodeE xs] (fun v => ∃ y : TVoter, v = voterE.val y ∧ y.choices.length ≤ 5) :=
  (spec_l11DrawF xs hn).calls fun bs F h => by
    rcases h with ⟨k, l, rfl, rfl⟩ | ⟨ys, ver, k, l, hy, rfl, rfl⟩
    · exact ⟨_, ⟨⟨k, l, []⟩, rfl, by simp⟩, fun N ρ hb => OwnL.aggL (.flat rfl (.flat rfl (.nils .nil)))⟩
    · exact ⟨_, ⟨⟨k, l, ys⟩, rfl, hy⟩, fun N ρ hb => OwnL.aggL (.flat rfl (.flat rfl (OwnL.slE (E := choiceE) (hb 0 (by simp)) (fun _ => rfl) rfl (choiceE_flat _))))⟩
end Go.BM
