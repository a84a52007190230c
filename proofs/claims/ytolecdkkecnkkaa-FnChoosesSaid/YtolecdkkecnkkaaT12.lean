/- NewVoter: both sides. -/
import Derived.Test.YtolecdkkecnkkaaT2
import Derived.Test.YtolecdkkecnkkaaU2
set_option linter.unusedVariables false
set_option linter.unusedSimpArgs false
set_option maxRecDepth 100000
set_option maxHeartbeats 4000000
namespace Go.BM
open Go.Proofs Go.RowKit
attribute [local irreducible] ACalls AWp aops qops optK optP cK gateA condK mops qcallK PCalls loadV fldV idxV lenV slV storeH binS
def vote0 : TVote := ⟨0, 0, 0, ⟨0, 0⟩, 0⟩
def newVoterF (key : Int) : TVoterResult := if inB key 1 999 then ⟨0, vote0, ⟨key, 0, []⟩⟩ else ⟨3, vote0, ⟨0, 0, []⟩⟩
theorem nR_NewVoter (key : Int) : nVoterResult (newVoterF key) ≤ 1048576 := by
  unfold nVoterResult nVoter newVoterF
  split <;> simp
theorem impl_NewVoter (key : Int) : NCalls Try.prog 10 [.int .i64 key] (voterResultE.val (newVoterF key)) := by
  unfold newVoterF
  cases hc : inB key 1 999 <;> simp only [Bool.false_eq_true, if_true, if_false]
  all_goals
    refine NCalls.of ?_; refine ACalls.enter (n := 10) (rs := [.cell 2 34]) Try.func10 rfl rfl rfl (by kernel_rfl) (by kernel_rfl) (by kernel_rfl) (Nat.le_of_ble_eq_true rfl) ?_
    repeat' (first | (refine ACalls.start ?_; first | (refine ACalls.ofJi (impl_isKey _) rfl ?_)) | (refine qcall_start ?_; first | (refine qcallFi (impl_isKey _) rfl ?_ ?_; (focus ((first | exact rfl | (simp [pureV, flatV, voteE_val, refE_val, voterE_val, voterResultE_val]; done)))))) | (refine KV.run _ ?_) | (refine KQ.run _ ?_) | (refine KT.run _ ?_) | (refine AWp.seqH fun KC => ?_) | (refine AWp.block ?_) | (refine AWp.region ?_) | (refine mops_step0 rfl rfl fun KC => ?_) | (refine mops_step1 rfl fun KC => ?_) | (refine mops_step2 rfl fun KC => ?_) | (refine AWp.ret ?_) | (refine AWp.skip ?_) | (refine AWp.exit ?_) | (refine aops_callH rfl fun kC => ?_) | (refine qops_callH rfl fun kC => ?_) | (refine AWp.condB ?_) | (simp only [bse, wk, tys, storeH_ptr, Nat.reduceEqDiff, ↓reduceIte, reduceCtorEq, Nat.reduceAdd, Nat.reduceLeDiff, Int.reduceBEq, Int.reduceLT, Int.reduceLE, Int.reduceEq, ne_eq, not_false_eq_true, Nat.reduceMul, voteE_val, refE_val, voterE_val, voterResultE_val, *]) | (refine condK_bool (fun hb => ?_) (fun hb => ?_) <;> ((try simp only [Bool.not_eq_true', Bool.not_eq_false'] at hb) <;> (try (have hbe := of_decide_eq_true hb)) <;> (try (have hbe := eq_of_beq hb)))) | (refine aops_partB ?_) | (refine qops_partB ?_))
    exact ⟨[], by simp, OwnL.aggL (.flat rfl (.flat rfl (.flat rfl (.flat rfl (.flat rfl (.flat rfl (.flat rfl (.flat rfl (.flat rfl (.nils .nil))))))))))⟩
end Go.BM
