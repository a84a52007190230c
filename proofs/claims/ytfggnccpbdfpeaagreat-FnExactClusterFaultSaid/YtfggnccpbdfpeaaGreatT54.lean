/- FnExactClusterFault over data. -/
import Derived.Test.YtfggnccpbdfpeaaGreatT50
import Derived.Test.YtfggnccpbdfpeaaGreatT53
set_option linter.unusedVariables false
set_option linter.unusedSimpArgs false
set_option maxRecDepth 100000
set_option maxHeartbeats 4000000
namespace Go.BM
open Go.Proofs Go.RowKit
attribute [local irreducible] ACalls AWp aops qops optK optP cK gateA condK mops qcallK PCalls loadV fldV idxV lenV slV storeH binS
theorem Bnd.of {c : TCluster} (h : nCluster c ≤ 1048576) : Bnd c := by
  obtain ⟨h1, h2, h3, h4, h5, h6⟩ := nCluster_parts h
  have l4 := sumN_len chLen c.voters
  have l6 := sumN_len List.length c.heard
  exact ⟨h1, h2, h3, by omega, fun v hv => by have := sumN_at chLen hv; have e : chLen v = v.choices.length := rfl; omega, h5, by omega, fun l hl => by have := sumN_at List.length hl; omega⟩
theorem law_ClusterFault (c : TCluster) (l_c : limCluster c) : PCalls Tryz.prog 3 [clusterE.val c] (.bool true) := by
  have hz := laws_szCluster c (1048576) (by omega) (by omega) l_c
  by_cases h_c : szI (nCluster c) (1048576) < 0
  · generalize szI (nCluster c) (1048576) = q at hz h_c
    refine PCalls.flat rfl ?_; refine ACalls.enter (n := 27) (rs := [.tmp 2]) Tryz.func3 rfl rfl rfl (by kernel_rfl) (by kernel_rfl) (by kernel_rfl) (Nat.le_of_ble_eq_true rfl) ?_
    repeat' (first | (refine AWp.mixed (id := 10) [(0, 0), (1, 0), (2, 1), (3, 1), (4, 0)] (by kernel_rfl) (by kernel_rfl) ?_) | (refine ACalls.start ?_; first | (refine ACalls.ofJi (hz) rfl ?_)) | (refine qcall_start ?_; first | (refine qcallFi (hz) rfl ?_ ?_; (focus ((first | exact rfl | (simp [pureV, flatV, clusterE_val, clusterE_sz, quorumE_val, quorumE_sz]; done)))))) | (refine KV.run _ ?_) | (refine KQ.run _ ?_) | (refine KT.run _ ?_) | (refine AWp.seqH fun KC => ?_) | (refine AWp.block ?_) | (refine AWp.region ?_) | (refine mops_step0 rfl rfl fun KC => ?_) | (refine mops_step1 rfl fun KC => ?_) | (refine mops_step2 rfl fun KC => ?_) | (refine AWp.ret ?_) | (refine AWp.skip ?_) | (refine AWp.exit ?_) | (refine aops_callH rfl fun kC => ?_) | (refine qops_callH rfl fun kC => ?_) | (refine AWp.condB ?_) | (simp only [bse, wk, tys, storeH_ptr, Nat.reduceEqDiff, ↓reduceIte, reduceCtorEq, Nat.reduceAdd, Nat.reduceLeDiff, Int.reduceBEq, Int.reduceLT, Int.reduceLE, Int.reduceEq, ne_eq, not_false_eq_true, Nat.reduceMul, clusterE_val, clusterE_sz, quorumE_val, quorumE_sz, *]) | (refine condK_bool (fun hb => ?_) (fun hb => ?_) <;> ((try simp only [Bool.not_eq_true', Bool.not_eq_false'] at hb) <;> (try (have hbe := of_decide_eq_true hb)) <;> (try (have hbe := eq_of_beq hb)))) | (refine aops_partB ?_) | (refine qops_partB ?_))
  have n_c : nCluster c ≤ 1048576 := by unfold szI at *; (repeat' split at *) <;> omega
  have B := Bnd.of n_c
  have h1 := laws_toCluster c n_c
  have h2 := spec_ClusterFault c B
  have h3 := impl_ClusterFault c B
  have h4 := laws_eqCluster c n_c
  generalize clusterFault c = r at h2 h3
  generalize szI (nCluster c) (1048576) = q at hz h_c
  clear l_c n_c B
  refine PCalls.flat rfl ?_; refine ACalls.enter (n := 27) (rs := [.tmp 2]) Tryz.func3 rfl rfl rfl (by kernel_rfl) (by kernel_rfl) (by kernel_rfl) (Nat.le_of_ble_eq_true rfl) ?_
  repeat' (first | (refine AWp.mixed (id := 10) [(0, 0), (1, 0), (2, 1), (3, 1), (4, 0)] (by kernel_rfl) (by kernel_rfl) ?_) | (refine ACalls.start ?_; first | (refine ACalls.ofJi (hz) rfl ?_) | (refine ACalls.ofJi (h1) rfl ?_) | (refine ACalls.ofJi (h2) rfl ?_) | (refine ACalls.ofJi (h3) rfl ?_) | (refine ACalls.ofJi (h4) rfl ?_)) | (refine qcall_start ?_; first | (refine qcallFi (hz) rfl ?_ ?_; (focus ((first | exact rfl | (simp [pureV, flatV, clusterE_val, clusterE_sz, quorumE_val, quorumE_sz]; done))))) | (refine qcallFi (h1) rfl ?_ ?_; (focus ((first | exact rfl | (simp [pureV, flatV, clusterE_val, clusterE_sz, quorumE_val, quorumE_sz]; done))))) | (refine qcallFi (h2) rfl ?_ ?_; (focus ((first | exact rfl | (simp [pureV, flatV, clusterE_val, clusterE_sz, quorumE_val, quorumE_sz]; done))))) | (refine qcallFi (h3) rfl ?_ ?_; (focus ((first | exact rfl | (simp [pureV, flatV, clusterE_val, clusterE_sz, quorumE_val, quorumE_sz]; done))))) | (refine qcallFi (h4) rfl ?_ ?_; (focus ((first | exact rfl | (simp [pureV, flatV, clusterE_val, clusterE_sz, quorumE_val, quorumE_sz]; done)))))) | (refine KV.run _ ?_) | (refine KQ.run _ ?_) | (refine KT.run _ ?_) | (refine AWp.seqH fun KC => ?_) | (refine AWp.block ?_) | (refine AWp.region ?_) | (refine mops_step0 rfl rfl fun KC => ?_) | (refine mops_step1 rfl fun KC => ?_) | (refine mops_step2 rfl fun KC => ?_) | (refine AWp.ret ?_) | (refine AWp.skip ?_) | (refine AWp.exit ?_) | (refine aops_callH rfl fun kC => ?_) | (refine qops_callH rfl fun kC => ?_) | (refine AWp.condB ?_) | (simp only [bse, wk, tys, storeH_ptr, Nat.reduceEqDiff, ↓reduceIte, reduceCtorEq, Nat.reduceAdd, Nat.reduceLeDiff, Int.reduceBEq, Int.reduceLT, Int.reduceLE, Int.reduceEq, ne_eq, not_false_eq_true, Nat.reduceMul, clusterE_val, clusterE_sz, quorumE_val, quorumE_sz, *]) | (refine condK_bool (fun hb => ?_) (fun hb => ?_) <;> ((try simp only [Bool.not_eq_true', Bool.not_eq_false'] at hb) <;> (try (have hbe := of_decide_eq_true hb)) <;> (try (have hbe := eq_of_beq hb)))) | (refine aops_partB ?_) | (refine qops_partB ?_))
end Go.BM
