/- Marks of clusters in which nothing has happened yet. -/
import Derived.Test.YticajcenbhbglaaT75
import Derived.Test.YticajcenbhbglaaT50
import Derived.Test.YticajcenbhbglaaU8
import Derived.Test.YticajcenbhbglaaT67
set_option linter.unusedVariables false
set_option linter.unusedSimpArgs false
set_option maxRecDepth 100000
set_option maxHeartbeats 4000000
namespace Go.BM
open Go.Proofs Go.RowKit
attribute [local irreducible] ACalls AWp aops qops optK optP cK gateA condK mops qcallK PCalls loadV fldV idxV lenV slV storeH binS
def PlainC (x : TCluster) : Prop := (∀ v ∈ x.voters, v.choices = []) ∧ (∀ y ∈ x.heard, y = []) ∧ x.voters.length ≤ 1048576 ∧ x.heard.length ≤ 1048576
def mCluster (x : TCluster) : Nat := mQuorum x.quorum + x.bad.length + x.tree.length * 3 + mVoterS x.voters + x.votes.length * 6 + mInt64SS x.heard
theorem mk_Cluster (x : TCluster) (hn : nCluster x ≤ 1048576) (hp : PlainC x) : MCalls Try.prog 31 32 (clusterE.val x) (mCluster x) := by
  unfold nCluster at hn
  unfold mCluster
  intro H d S k ho hnd hk hk2
  rw [clusterE_val] at ho
  obtain ⟨xs, rfl, o⟩ := OwnL.aggI ho
  clear ho
  obtain ⟨d_0, m_0, S_0, R_0, rfl, rfl, p_0, o_n1⟩ := OwnL.consI o
  obtain ⟨a_0, n_0, v_0, rfl⟩ := OwnL.slD p_0
  obtain ⟨m_1, rfl, o_n2⟩ := OwnL.flatI o_n1 rfl
  obtain ⟨d_2, m_2, S_2, R_2, rfl, rfl, p_2, o_n3⟩ := OwnL.consI o_n2
  obtain ⟨a_2, n_2, v_2, rfl⟩ := OwnL.slD p_2
  obtain ⟨d_3, m_3, S_3, R_3, rfl, rfl, p_3, o_n4⟩ := OwnL.consI o_n3
  obtain ⟨a_3, n_3, v_3, rfl⟩ := OwnL.slD p_3
  obtain ⟨d_4, m_4, S_4, R_4, rfl, rfl, p_4, o_n5⟩ := OwnL.consI o_n4
  obtain ⟨a_4, n_4, v_4, rfl⟩ := OwnL.slD p_4
  obtain ⟨d_5, m_5, S_5, R_5, rfl, rfl, p_5, o_n6⟩ := OwnL.consI o_n5
  obtain ⟨a_5, n_5, v_5, rfl⟩ := OwnL.slD p_5
  obtain ⟨d_6, m_6, S_6, R_6, rfl, rfl, p_6, o_n7⟩ := OwnL.consI o_n6
  obtain ⟨a_6, n_6, v_6, rfl⟩ := OwnL.slD p_6
  obtain ⟨rfl, rfl⟩ := OwnL.nilI o_n7
  have hc : Cx H [(.agg #[.slice a_0 n_0 v_0, .int .i64 x.quorum.need], quorumE.val x.quorum, S_0 ++ ([])), (.slice a_2 n_2 v_2, islE intE x.bad, S_2), (.slice a_3 n_3 v_3, islE nodeE x.tree, S_3), (.slice a_4 n_4 v_4, islE voterE x.voters, S_4), (.slice a_5 n_5 v_5, islE voteE x.votes, S_5), (.slice a_6 n_6 v_6, islE (sliceE intE) x.heard, S_6)] [] := ⟨by intro o ho; simp only [List.mem_cons, List.not_mem_nil, or_false] at ho; rcases ho with rfl | rfl | rfl | rfl | rfl | rfl <;> first | exact (OwnL.aggL (OwnL.append p_0 (.flat rfl (.nil)))) | exact p_2 | exact p_3 | exact p_4 | exact p_5 | exact p_6, by simpa using hnd, by simp⟩
  refine ACalls.enter (n := 30) (rs := [.tmp 4]) Try.func31 rfl rfl rfl (by kernel_rfl) (by kernel_rfl) (by kernel_rfl) (Nat.le_of_ble_eq_true rfl) ?_
  repeat' (first | (refine KV.run _ ?_) | (refine KQ.run _ ?_) | (refine KT.run _ ?_) | (refine AWp.seqH fun KC => ?_) | (refine AWp.block ?_) | (refine AWp.region ?_) | (refine mops_step0 rfl rfl fun KC => ?_) | (refine mops_step1 rfl fun KC => ?_) | (refine mops_step2 rfl fun KC => ?_) | (refine AWp.ret ?_) | (refine AWp.skip ?_) | (refine AWp.exit ?_) | (refine aops_callH rfl fun kC => ?_) | (refine qops_callH rfl fun kC => ?_) | (refine AWp.condB ?_) | (simp only [bse, wk, tys, storeH_ptr, Nat.reduceEqDiff, ↓reduceIte, reduceCtorEq, Nat.reduceAdd, Nat.reduceLeDiff, Int.reduceBEq, Int.reduceLT, Int.reduceLE, Int.reduceEq, ne_eq, not_false_eq_true, Nat.reduceMul, quorumE_val, quorumE_sz, clusterE_val, clusterE_sz, *]) | (refine condK_bool (fun hb => ?_) (fun hb => ?_) <;> ((try simp only [Bool.not_eq_true', Bool.not_eq_false'] at hb) <;> (try (have hbe := of_decide_eq_true hb)) <;> (try (have hbe := eq_of_beq hb)))) | (refine aops_partB ?_) | (refine qops_partB ?_))
  refine ACalls.get (mk_Quorum x.quorum (by unfold nQuorum; omega) _ _ _ (k) ((hc.push _).get 0 rfl) (hc.getNd 0 rfl) (by omega) (by omega)) (by first | exact Nat.le_refl _ | exact Nat.zero_le _ | (simp only [List.length_append, List.length_cons, List.length_nil]; omega) | (simp only [List.length_set]; omega) | omega) (by first | exact Nat.le_refl _ | exact Nat.zero_le _ | (simp only [List.length_append, List.length_cons, List.length_nil]; omega) | (simp only [List.length_set]; omega) | omega) ?_
  rintro _ H0 ⟨rfl, hM0⟩
  obtain ⟨y0, hy0, hc0⟩ := (hc.push _).mark 0 rfl hM0
  have hb0 := hc0.bx 0 rfl
  repeat' (first | (refine KV.run _ ?_) | (refine KQ.run _ ?_) | (refine KT.run _ ?_) | (refine AWp.seqH fun KC => ?_) | (refine AWp.block ?_) | (refine AWp.region ?_) | (refine mops_step0 rfl rfl fun KC => ?_) | (refine mops_step1 rfl fun KC => ?_) | (refine mops_step2 rfl fun KC => ?_) | (refine AWp.ret ?_) | (refine AWp.skip ?_) | (refine AWp.exit ?_) | (refine aops_callH rfl fun kC => ?_) | (refine qops_callH rfl fun kC => ?_) | (refine AWp.condB ?_) | (simp only [bse, wk, tys, storeH_ptr, Nat.reduceEqDiff, ↓reduceIte, reduceCtorEq, Nat.reduceAdd, Nat.reduceLeDiff, Int.reduceBEq, Int.reduceLT, Int.reduceLE, Int.reduceEq, ne_eq, not_false_eq_true, Nat.reduceMul, quorumE_val, quorumE_sz, clusterE_val, clusterE_sz, *]) | (refine condK_bool (fun hb => ?_) (fun hb => ?_) <;> ((try simp only [Bool.not_eq_true', Bool.not_eq_false'] at hb) <;> (try (have hbe := of_decide_eq_true hb)) <;> (try (have hbe := eq_of_beq hb)))) | (refine aops_partB ?_) | (refine qops_partB ?_))
  refine ACalls.get (mk_Int64S x.bad (by omega) _ _ _ (k + ((mQuorum x.quorum : Nat) : Int)) (hc0.get 1 rfl) (hc.getNd 1 rfl) (by omega) (by omega)) (by first | exact Nat.le_refl _ | exact Nat.zero_le _ | (simp only [List.length_append, List.length_cons, List.length_nil]; omega) | (simp only [List.length_set]; omega) | omega) (by first | exact Nat.le_refl _ | exact Nat.zero_le _ | (simp only [List.length_append, List.length_cons, List.length_nil]; omega) | (simp only [List.length_set]; omega) | omega) ?_
  rintro _ H1 ⟨rfl, hM1⟩
  obtain ⟨y1, hy1, hc1⟩ := hc0.mark 1 rfl hM1
  have hb1 := hc1.bx 0 rfl
  repeat' (first | (refine KV.run _ ?_) | (refine KQ.run _ ?_) | (refine KT.run _ ?_) | (refine AWp.seqH fun KC => ?_) | (refine AWp.block ?_) | (refine AWp.region ?_) | (refine mops_step0 rfl rfl fun KC => ?_) | (refine mops_step1 rfl fun KC => ?_) | (refine mops_step2 rfl fun KC => ?_) | (refine AWp.ret ?_) | (refine AWp.skip ?_) | (refine AWp.exit ?_) | (refine aops_callH rfl fun kC => ?_) | (refine qops_callH rfl fun kC => ?_) | (refine AWp.condB ?_) | (simp only [bse, wk, tys, storeH_ptr, Nat.reduceEqDiff, ↓reduceIte, reduceCtorEq, Nat.reduceAdd, Nat.reduceLeDiff, Int.reduceBEq, Int.reduceLT, Int.reduceLE, Int.reduceEq, ne_eq, not_false_eq_true, Nat.reduceMul, quorumE_val, quorumE_sz, clusterE_val, clusterE_sz, *]) | (refine condK_bool (fun hb => ?_) (fun hb => ?_) <;> ((try simp only [Bool.not_eq_true', Bool.not_eq_false'] at hb) <;> (try (have hbe := of_decide_eq_true hb)) <;> (try (have hbe := eq_of_beq hb)))) | (refine aops_partB ?_) | (refine qops_partB ?_))
  refine ACalls.get (mk_NodeS x.tree (by omega) _ _ _ (k + ((mQuorum x.quorum : Nat) : Int) + ((x.bad.length : Nat) : Int)) (hc1.get 2 rfl) (hc.getNd 2 rfl) (by omega) (by omega)) (by first | exact Nat.le_refl _ | exact Nat.zero_le _ | (simp only [List.length_append, List.length_cons, List.length_nil]; omega) | (simp only [List.length_set]; omega) | omega) (by first | exact Nat.le_refl _ | exact Nat.zero_le _ | (simp only [List.length_append, List.length_cons, List.length_nil]; omega) | (simp only [List.length_set]; omega) | omega) ?_
  rintro _ H2 ⟨rfl, hM2⟩
  obtain ⟨y2, hy2, hc2⟩ := hc1.mark 2 rfl hM2
  have hb2 := hc2.bx 0 rfl
  repeat' (first | (refine KV.run _ ?_) | (refine KQ.run _ ?_) | (refine KT.run _ ?_) | (refine AWp.seqH fun KC => ?_) | (refine AWp.block ?_) | (refine AWp.region ?_) | (refine mops_step0 rfl rfl fun KC => ?_) | (refine mops_step1 rfl fun KC => ?_) | (refine mops_step2 rfl fun KC => ?_) | (refine AWp.ret ?_) | (refine AWp.skip ?_) | (refine AWp.exit ?_) | (refine aops_callH rfl fun kC => ?_) | (refine qops_callH rfl fun kC => ?_) | (refine AWp.condB ?_) | (simp only [bse, wk, tys, storeH_ptr, Nat.reduceEqDiff, ↓reduceIte, reduceCtorEq, Nat.reduceAdd, Nat.reduceLeDiff, Int.reduceBEq, Int.reduceLT, Int.reduceLE, Int.reduceEq, ne_eq, not_false_eq_true, Nat.reduceMul, quorumE_val, quorumE_sz, clusterE_val, clusterE_sz, *]) | (refine condK_bool (fun hb => ?_) (fun hb => ?_) <;> ((try simp only [Bool.not_eq_true', Bool.not_eq_false'] at hb) <;> (try (have hbe := of_decide_eq_true hb)) <;> (try (have hbe := eq_of_beq hb)))) | (refine aops_partB ?_) | (refine qops_partB ?_))
  refine ACalls.get (mk_VoterS x.voters hp.1 hp.2.2.1 _ _ _ (k + ((mQuorum x.quorum : Nat) : Int) + ((x.bad.length : Nat) : Int) + ((x.tree.length * 3 : Nat) : Int)) (hc2.get 3 rfl) (hc.getNd 3 rfl) (by omega) (by omega)) (by first | exact Nat.le_refl _ | exact Nat.zero_le _ | (simp only [List.length_append, List.length_cons, List.length_nil]; omega) | (simp only [List.length_set]; omega) | omega) (by first | exact Nat.le_refl _ | exact Nat.zero_le _ | (simp only [List.length_append, List.length_cons, List.length_nil]; omega) | (simp only [List.length_set]; omega) | omega) ?_
  rintro _ H3 ⟨rfl, hM3⟩
  obtain ⟨y3, hy3, hc3⟩ := hc2.mark 3 rfl hM3
  have hb3 := hc3.bx 0 rfl
  repeat' (first | (refine KV.run _ ?_) | (refine KQ.run _ ?_) | (refine KT.run _ ?_) | (refine AWp.seqH fun KC => ?_) | (refine AWp.block ?_) | (refine AWp.region ?_) | (refine mops_step0 rfl rfl fun KC => ?_) | (refine mops_step1 rfl fun KC => ?_) | (refine mops_step2 rfl fun KC => ?_) | (refine AWp.ret ?_) | (refine AWp.skip ?_) | (refine AWp.exit ?_) | (refine aops_callH rfl fun kC => ?_) | (refine qops_callH rfl fun kC => ?_) | (refine AWp.condB ?_) | (simp only [bse, wk, tys, storeH_ptr, Nat.reduceEqDiff, ↓reduceIte, reduceCtorEq, Nat.reduceAdd, Nat.reduceLeDiff, Int.reduceBEq, Int.reduceLT, Int.reduceLE, Int.reduceEq, ne_eq, not_false_eq_true, Nat.reduceMul, quorumE_val, quorumE_sz, clusterE_val, clusterE_sz, *]) | (refine condK_bool (fun hb => ?_) (fun hb => ?_) <;> ((try simp only [Bool.not_eq_true', Bool.not_eq_false'] at hb) <;> (try (have hbe := of_decide_eq_true hb)) <;> (try (have hbe := eq_of_beq hb)))) | (refine aops_partB ?_) | (refine qops_partB ?_))
  refine ACalls.get (mk_VoteS x.votes (by omega) _ _ _ (k + ((mQuorum x.quorum : Nat) : Int) + ((x.bad.length : Nat) : Int) + ((x.tree.length * 3 : Nat) : Int) + ((mVoterS x.voters : Nat) : Int)) (hc3.get 4 rfl) (hc.getNd 4 rfl) (by omega) (by omega)) (by first | exact Nat.le_refl _ | exact Nat.zero_le _ | (simp only [List.length_append, List.length_cons, List.length_nil]; omega) | (simp only [List.length_set]; omega) | omega) (by first | exact Nat.le_refl _ | exact Nat.zero_le _ | (simp only [List.length_append, List.length_cons, List.length_nil]; omega) | (simp only [List.length_set]; omega) | omega) ?_
  rintro _ H4 ⟨rfl, hM4⟩
  obtain ⟨y4, hy4, hc4⟩ := hc3.mark 4 rfl hM4
  have hb4 := hc4.bx 0 rfl
  repeat' (first | (refine KV.run _ ?_) | (refine KQ.run _ ?_) | (refine KT.run _ ?_) | (refine AWp.seqH fun KC => ?_) | (refine AWp.block ?_) | (refine AWp.region ?_) | (refine mops_step0 rfl rfl fun KC => ?_) | (refine mops_step1 rfl fun KC => ?_) | (refine mops_step2 rfl fun KC => ?_) | (refine AWp.ret ?_) | (refine AWp.skip ?_) | (refine AWp.exit ?_) | (refine aops_callH rfl fun kC => ?_) | (refine qops_callH rfl fun kC => ?_) | (refine AWp.condB ?_) | (simp only [bse, wk, tys, storeH_ptr, Nat.reduceEqDiff, ↓reduceIte, reduceCtorEq, Nat.reduceAdd, Nat.reduceLeDiff, Int.reduceBEq, Int.reduceLT, Int.reduceLE, Int.reduceEq, ne_eq, not_false_eq_true, Nat.reduceMul, quorumE_val, quorumE_sz, clusterE_val, clusterE_sz, *]) | (refine condK_bool (fun hb => ?_) (fun hb => ?_) <;> ((try simp only [Bool.not_eq_true', Bool.not_eq_false'] at hb) <;> (try (have hbe := of_decide_eq_true hb)) <;> (try (have hbe := eq_of_beq hb)))) | (refine aops_partB ?_) | (refine qops_partB ?_))
  refine ACalls.get (mk_Int64SS x.heard hp.2.1 hp.2.2.2 _ _ _ (k + ((mQuorum x.quorum : Nat) : Int) + ((x.bad.length : Nat) : Int) + ((x.tree.length * 3 : Nat) : Int) + ((mVoterS x.voters : Nat) : Int) + ((x.votes.length * 6 : Nat) : Int)) (hc4.get 5 rfl) (hc.getNd 5 rfl) (by omega) (by omega)) (by first | exact Nat.le_refl _ | exact Nat.zero_le _ | (simp only [List.length_append, List.length_cons, List.length_nil]; omega) | (simp only [List.length_set]; omega) | omega) (by first | exact Nat.le_refl _ | exact Nat.zero_le _ | (simp only [List.length_append, List.length_cons, List.length_nil]; omega) | (simp only [List.length_set]; omega) | omega) ?_
  rintro _ H5 ⟨rfl, hM5⟩
  obtain ⟨y5, hy5, hc5⟩ := hc4.mark 5 rfl hM5
  have hb5 := hc5.bx 0 rfl
  repeat' (first | (refine KV.run _ ?_) | (refine KQ.run _ ?_) | (refine KT.run _ ?_) | (refine AWp.seqH fun KC => ?_) | (refine AWp.block ?_) | (refine AWp.region ?_) | (refine mops_step0 rfl rfl fun KC => ?_) | (refine mops_step1 rfl fun KC => ?_) | (refine mops_step2 rfl fun KC => ?_) | (refine AWp.ret ?_) | (refine AWp.skip ?_) | (refine AWp.exit ?_) | (refine aops_callH rfl fun kC => ?_) | (refine qops_callH rfl fun kC => ?_) | (refine AWp.condB ?_) | (simp only [bse, wk, tys, storeH_ptr, Nat.reduceEqDiff, ↓reduceIte, reduceCtorEq, Nat.reduceAdd, Nat.reduceLeDiff, Int.reduceBEq, Int.reduceLT, Int.reduceLE, Int.reduceEq, ne_eq, not_false_eq_true, Nat.reduceMul, quorumE_val, quorumE_sz, clusterE_val, clusterE_sz, *]) | (refine condK_bool (fun hb => ?_) (fun hb => ?_) <;> ((try simp only [Bool.not_eq_true', Bool.not_eq_false'] at hb) <;> (try (have hbe := of_decide_eq_true hb)) <;> (try (have hbe := eq_of_beq hb)))) | (refine aops_partB ?_) | (refine qops_partB ?_))
  obtain ⟨ys0, rfl, p0⟩ := OwnL.aggJ (hc5.get 0 rfl)
  obtain ⟨k_0_0, c_0_0, m_0_0, _, _, rfl, _, w_0_0, p0_n1⟩ := OwnL.slY p0
  haveI im_0_0 : ImC (isl k_0_0 c_0_0) := ⟨w_0_0.im1⟩
  obtain ⟨m_0_1, rfl, p0_n2⟩ := OwnL.flatJ p0_n1 rfl (fun _ => by simp)
  obtain ⟨rfl, _⟩ := OwnL.nilJ p0_n2
  obtain ⟨k1, cs1, _, _, _, e1, _, _, _⟩ := OwnL.slY (hc5.get 1 rfl)
  cases e1
  haveI im1 : ImC (isl k1 cs1) := ⟨(hc5.get 1 rfl).im1⟩
  obtain ⟨k2, cs2, _, _, _, e2, _, _, _⟩ := OwnL.slY (hc5.get 2 rfl)
  cases e2
  haveI im2 : ImC (isl k2 cs2) := ⟨(hc5.get 2 rfl).im1⟩
  obtain ⟨k3, cs3, _, _, _, e3, _, _, _⟩ := OwnL.slY (hc5.get 3 rfl)
  cases e3
  haveI im3 : ImC (isl k3 cs3) := ⟨(hc5.get 3 rfl).im1⟩
  obtain ⟨k4, cs4, _, _, _, e4, _, _, _⟩ := OwnL.slY (hc5.get 4 rfl)
  cases e4
  haveI im4 : ImC (isl k4 cs4) := ⟨(hc5.get 4 rfl).im1⟩
  obtain ⟨k5, cs5, _, _, _, e5, _, _, _⟩ := OwnL.slY (hc5.get 5 rfl)
  cases e5
  haveI im5 : ImC (isl k5 cs5) := ⟨(hc5.get 5 rfl).im1⟩
  have hh : PCalls Try.prog 32 [.agg #[isl k_0_0 c_0_0, .int .i64 x.quorum.need, isl k1 cs1, isl k2 cs2, isl k3 cs3, isl k4 cs4, isl k5 cs5], .int .i64 k] (.int .i64 (k + ((mQuorum x.quorum : Nat) : Int) + ((x.bad.length : Nat) : Int) + ((x.tree.length * 3 : Nat) : Int) + ((mVoterS x.voters : Nat) : Int) + ((x.votes.length * 6 : Nat) : Int) + ((mInt64SS x.heard : Nat) : Int))) := by
    have q0 : ¬ k + ((mQuorum x.quorum : Nat) : Int) < 0 := by omega
    have q1 : ¬ k + ((mQuorum x.quorum : Nat) : Int) + ((x.bad.length : Nat) : Int) < 0 := by omega
    have q2 : ¬ k + ((mQuorum x.quorum : Nat) : Int) + ((x.bad.length : Nat) : Int) + ((x.tree.length * 3 : Nat) : Int) < 0 := by omega
    have q3 : ¬ k + ((mQuorum x.quorum : Nat) : Int) + ((x.bad.length : Nat) : Int) + ((x.tree.length * 3 : Nat) : Int) + ((mVoterS x.voters : Nat) : Int) < 0 := by omega
    have q4 : ¬ k + ((mQuorum x.quorum : Nat) : Int) + ((x.bad.length : Nat) : Int) + ((x.tree.length * 3 : Nat) : Int) + ((mVoterS x.voters : Nat) : Int) + ((x.votes.length * 6 : Nat) : Int) < 0 := by omega
    have q5 : ¬ k + ((mQuorum x.quorum : Nat) : Int) + ((x.bad.length : Nat) : Int) + ((x.tree.length * 3 : Nat) : Int) + ((mVoterS x.voters : Nat) : Int) + ((x.votes.length * 6 : Nat) : Int) + ((mInt64SS x.heard : Nat) : Int) < 0 := by omega
    refine PCalls.flat rfl ?_; refine ACalls.enter (n := 42) (rs := [.tmp 4]) Try.func32 rfl rfl rfl (by kernel_rfl) (by kernel_rfl) (by kernel_rfl) (Nat.le_of_ble_eq_true rfl) ?_
    repeat' (first | (refine ACalls.start ?_; first | (refine ACalls.ofJi (hy0) rfl ?_) | (refine ACalls.ofJi (hy1) rfl ?_) | (refine ACalls.ofJi (hy2) rfl ?_) | (refine ACalls.ofJi (hy3) rfl ?_) | (refine ACalls.ofJi (hy4) rfl ?_) | (refine ACalls.ofJi (hy5) rfl ?_)) | (refine qcall_start ?_; first | (refine qcallFi (hy0) rfl ?_ ?_; (focus ((first | exact rfl | (simp [pureV, flatV, quorumE_val, quorumE_sz, clusterE_val, clusterE_sz]; done))))) | (refine qcallFi (hy1) rfl ?_ ?_; (focus ((first | exact rfl | (simp [pureV, flatV, quorumE_val, quorumE_sz, clusterE_val, clusterE_sz]; done))))) | (refine qcallFi (hy2) rfl ?_ ?_; (focus ((first | exact rfl | (simp [pureV, flatV, quorumE_val, quorumE_sz, clusterE_val, clusterE_sz]; done))))) | (refine qcallFi (hy3) rfl ?_ ?_; (focus ((first | exact rfl | (simp [pureV, flatV, quorumE_val, quorumE_sz, clusterE_val, clusterE_sz]; done))))) | (refine qcallFi (hy4) rfl ?_ ?_; (focus ((first | exact rfl | (simp [pureV, flatV, quorumE_val, quorumE_sz, clusterE_val, clusterE_sz]; done))))) | (refine qcallFi (hy5) rfl ?_ ?_; (focus ((first | exact rfl | (simp [pureV, flatV, quorumE_val, quorumE_sz, clusterE_val, clusterE_sz]; done)))))) | (refine KV.run _ ?_) | (refine KQ.run _ ?_) | (refine KT.run _ ?_) | (refine AWp.seqH fun KC => ?_) | (refine AWp.block ?_) | (refine AWp.region ?_) | (refine mops_step0 rfl rfl fun KC => ?_) | (refine mops_step1 rfl fun KC => ?_) | (refine mops_step2 rfl fun KC => ?_) | (refine AWp.ret ?_) | (refine AWp.skip ?_) | (refine AWp.exit ?_) | (refine aops_callH rfl fun kC => ?_) | (refine qops_callH rfl fun kC => ?_) | (refine AWp.condB ?_) | (simp only [bse, wk, tys, storeH_ptr, Nat.reduceEqDiff, ↓reduceIte, reduceCtorEq, Nat.reduceAdd, Nat.reduceLeDiff, Int.reduceBEq, Int.reduceLT, Int.reduceLE, Int.reduceEq, ne_eq, not_false_eq_true, Nat.reduceMul, quorumE_val, quorumE_sz, clusterE_val, clusterE_sz, *]) | (refine condK_bool (fun hb => ?_) (fun hb => ?_) <;> ((try simp only [Bool.not_eq_true', Bool.not_eq_false'] at hb) <;> (try (have hbe := of_decide_eq_true hb)) <;> (try (have hbe := eq_of_beq hb)))) | (refine aops_partB ?_) | (refine qops_partB ?_))
  have ek : k + ((mQuorum x.quorum : Nat) : Int) + ((x.bad.length : Nat) : Int) + ((x.tree.length * 3 : Nat) : Int) + ((mVoterS x.voters : Nat) : Int) + ((x.votes.length * 6 : Nat) : Int) + ((mInt64SS x.heard : Nat) : Int) = k + ((mQuorum x.quorum + x.bad.length + x.tree.length * 3 + mVoterS x.voters + x.votes.length * 6 + mInt64SS x.heard : Nat) : Int) := by omega
  rw [ek] at hh
  try rw [ek]
  try (refine And.intro ?_ ?_; focus (first | rfl | omega | (congr 1; omega)))
  refine ⟨by have := hM0.len; have := hM1.len; have := hM2.len; have := hM3.len; have := hM4.len; have := hM5.len; simp only [List.length_append, List.length_cons, List.length_nil] at *; omega, fun r hr hs => (hM5.old r (by have := hM0.len; have := hM1.len; have := hM2.len; have := hM3.len; have := hM4.len; have := hM5.len; simp only [List.length_append, List.length_cons, List.length_nil] at *; omega) (fun h => hs (by first | exact h | (simp at h ⊢; grind)))).trans ((hM4.old r (by have := hM0.len; have := hM1.len; have := hM2.len; have := hM3.len; have := hM4.len; have := hM5.len; simp only [List.length_append, List.length_cons, List.length_nil] at *; omega) (fun h => hs (by first | exact h | (simp at h ⊢; grind)))).trans ((hM3.old r (by have := hM0.len; have := hM1.len; have := hM2.len; have := hM3.len; have := hM4.len; have := hM5.len; simp only [List.length_append, List.length_cons, List.length_nil] at *; omega) (fun h => hs (by first | exact h | (simp at h ⊢; grind)))).trans ((hM2.old r (by have := hM0.len; have := hM1.len; have := hM2.len; have := hM3.len; have := hM4.len; have := hM5.len; simp only [List.length_append, List.length_cons, List.length_nil] at *; omega) (fun h => hs (by first | exact h | (simp at h ⊢; grind)))).trans ((hM1.old r (by have := hM0.len; have := hM1.len; have := hM2.len; have := hM3.len; have := hM4.len; have := hM5.len; simp only [List.length_append, List.length_cons, List.length_nil] at *; omega) (fun h => hs (by first | exact h | (simp at h ⊢; grind)))).trans ((hM0.old r (by have := hM0.len; have := hM1.len; have := hM2.len; have := hM3.len; have := hM4.len; have := hM5.len; simp only [List.length_append, List.length_cons, List.length_nil] at *; omega) (fun h => hs (by first | exact h | (simp at h ⊢; grind)))).trans (List.getElem?_append_left hr)))))), _, ?_, hh⟩
  have hS : OwnL true H5 [.agg #[.slice a_0 n_0 v_0, .int .i64 x.quorum.need, .slice a_2 n_2 v_2, .slice a_3 n_3 v_3, .slice a_4 n_4 v_4, .slice a_5 n_5 v_5, .slice a_6 n_6 v_6]] [.agg #[isl k_0_0 c_0_0, .int .i64 x.quorum.need, isl k1 cs1, isl k2 cs2, isl k3 cs3, isl k4 cs4, isl k5 cs5]] _ := OwnL.aggL (OwnL.append (OwnL.unagg (hc5.get 0 rfl)) (OwnL.append (hc5.get 1 rfl) (OwnL.append (hc5.get 2 rfl) (OwnL.append (hc5.get 3 rfl) (OwnL.append (hc5.get 4 rfl) (OwnL.append (hc5.get 5 rfl) (.nil)))))))
  first | exact hS | simpa using hS
def nClusterResult (x : TClusterResult) : Nat := nCluster x.cluster
def mClusterResult (x : TClusterResult) : Nat := mCluster x.cluster
def limClusterResult (x : TClusterResult) : Prop := limCluster x.cluster
theorem laws_eqClusterResult (x : TClusterResult) (hn : nClusterResult x ≤ 1048576) : PCalls Try.prog 9 [clusterResultE.val x, clusterResultE.val x] (.bool true) := by
  unfold nClusterResult at hn
  refine PCalls.flat rfl ?_; refine ACalls.enter (n := 16) (rs := [.tmp 4]) Try.func9 rfl rfl rfl (by kernel_rfl) (by kernel_rfl) (by kernel_rfl) (Nat.le_of_ble_eq_true rfl) ?_
  repeat' (first | (refine ACalls.start ?_; first | (refine ACalls.ofJi (laws_eqCluster x.cluster (by omega)) rfl ?_)) | (refine qcall_start ?_; first | (refine qcallFi (laws_eqCluster x.cluster (by omega)) rfl ?_ ?_; (focus ((first | exact rfl | (simp [pureV, flatV, clusterE_val, clusterE_sz, clusterResultE_val, clusterResultE_sz, quorumE_val, quorumE_sz]; done)))))) | (refine KV.run _ ?_) | (refine KQ.run _ ?_) | (refine KT.run _ ?_) | (refine AWp.seqH fun KC => ?_) | (refine AWp.block ?_) | (refine AWp.region ?_) | (refine mops_step0 rfl rfl fun KC => ?_) | (refine mops_step1 rfl fun KC => ?_) | (refine mops_step2 rfl fun KC => ?_) | (refine AWp.ret ?_) | (refine AWp.skip ?_) | (refine AWp.exit ?_) | (refine aops_callH rfl fun kC => ?_) | (refine qops_callH rfl fun kC => ?_) | (refine AWp.condB ?_) | (simp only [bse, wk, tys, storeH_ptr, Nat.reduceEqDiff, ↓reduceIte, reduceCtorEq, Nat.reduceAdd, Nat.reduceLeDiff, Int.reduceBEq, Int.reduceLT, Int.reduceLE, Int.reduceEq, ne_eq, not_false_eq_true, Nat.reduceMul, clusterE_val, clusterE_sz, clusterResultE_val, clusterResultE_sz, quorumE_val, quorumE_sz, *]) | (refine condK_bool (fun hb => ?_) (fun hb => ?_) <;> ((try simp only [Bool.not_eq_true', Bool.not_eq_false'] at hb) <;> (try (have hbe := of_decide_eq_true hb)) <;> (try (have hbe := eq_of_beq hb)))) | (refine aops_partB ?_) | (refine qops_partB ?_))
theorem mk_ClusterResult (x : TClusterResult) (hn : nClusterResult x ≤ 1048576) (hp : PlainC x.cluster) : MCalls Try.prog 14 15 (clusterResultE.val x) (mClusterResult x) := by
  unfold nClusterResult at hn
  unfold mClusterResult
  intro H d S k ho hnd hk hk2
  rw [clusterResultE_val] at ho
  obtain ⟨xs, rfl, o⟩ := OwnL.aggI ho
  clear ho
  obtain ⟨m_0, rfl, o_n1⟩ := OwnL.flatI o rfl
  obtain ⟨d_1, m_1, S_1, R_1, rfl, rfl, p_1, o_n2⟩ := OwnL.consI o_n1
  obtain ⟨a_1, n_1, v_1, rfl⟩ := OwnL.slD p_1
  obtain ⟨m_2, rfl, o_n3⟩ := OwnL.flatI o_n2 rfl
  obtain ⟨d_3, m_3, S_3, R_3, rfl, rfl, p_3, o_n4⟩ := OwnL.consI o_n3
  obtain ⟨a_3, n_3, v_3, rfl⟩ := OwnL.slD p_3
  obtain ⟨d_4, m_4, S_4, R_4, rfl, rfl, p_4, o_n5⟩ := OwnL.consI o_n4
  obtain ⟨a_4, n_4, v_4, rfl⟩ := OwnL.slD p_4
  obtain ⟨d_5, m_5, S_5, R_5, rfl, rfl, p_5, o_n6⟩ := OwnL.consI o_n5
  obtain ⟨a_5, n_5, v_5, rfl⟩ := OwnL.slD p_5
  obtain ⟨d_6, m_6, S_6, R_6, rfl, rfl, p_6, o_n7⟩ := OwnL.consI o_n6
  obtain ⟨a_6, n_6, v_6, rfl⟩ := OwnL.slD p_6
  obtain ⟨d_7, m_7, S_7, R_7, rfl, rfl, p_7, o_n8⟩ := OwnL.consI o_n7
  obtain ⟨a_7, n_7, v_7, rfl⟩ := OwnL.slD p_7
  obtain ⟨rfl, rfl⟩ := OwnL.nilI o_n8
  have hc : Cx H [(.agg #[.slice a_1 n_1 v_1, .int .i64 x.cluster.quorum.need, .slice a_3 n_3 v_3, .slice a_4 n_4 v_4, .slice a_5 n_5 v_5, .slice a_6 n_6 v_6, .slice a_7 n_7 v_7], clusterE.val x.cluster, S_1 ++ (S_3 ++ (S_4 ++ (S_5 ++ (S_6 ++ (S_7 ++ ([])))))))] [] := ⟨by intro o ho; simp only [List.mem_cons, List.not_mem_nil, or_false] at ho; rcases ho with rfl <;> first | exact (OwnL.aggL (OwnL.append p_1 (.flat rfl (OwnL.append p_3 (OwnL.append p_4 (OwnL.append p_5 (OwnL.append p_6 (OwnL.append p_7 (.nil))))))))), by simpa using hnd, by simp⟩
  refine ACalls.enter (n := 10) (rs := [.tmp 4]) Try.func14 rfl rfl rfl (by kernel_rfl) (by kernel_rfl) (by kernel_rfl) (Nat.le_of_ble_eq_true rfl) ?_
  repeat' (first | (refine KV.run _ ?_) | (refine KQ.run _ ?_) | (refine KT.run _ ?_) | (refine AWp.seqH fun KC => ?_) | (refine AWp.block ?_) | (refine AWp.region ?_) | (refine mops_step0 rfl rfl fun KC => ?_) | (refine mops_step1 rfl fun KC => ?_) | (refine mops_step2 rfl fun KC => ?_) | (refine AWp.ret ?_) | (refine AWp.skip ?_) | (refine AWp.exit ?_) | (refine aops_callH rfl fun kC => ?_) | (refine qops_callH rfl fun kC => ?_) | (refine AWp.condB ?_) | (simp only [bse, wk, tys, storeH_ptr, Nat.reduceEqDiff, ↓reduceIte, reduceCtorEq, Nat.reduceAdd, Nat.reduceLeDiff, Int.reduceBEq, Int.reduceLT, Int.reduceLE, Int.reduceEq, ne_eq, not_false_eq_true, Nat.reduceMul, clusterE_val, clusterE_sz, clusterResultE_val, clusterResultE_sz, quorumE_val, quorumE_sz, *]) | (refine condK_bool (fun hb => ?_) (fun hb => ?_) <;> ((try simp only [Bool.not_eq_true', Bool.not_eq_false'] at hb) <;> (try (have hbe := of_decide_eq_true hb)) <;> (try (have hbe := eq_of_beq hb)))) | (refine aops_partB ?_) | (refine qops_partB ?_))
  refine ACalls.get (mk_Cluster x.cluster (by omega) hp _ _ _ (k) ((hc.push _).get 0 rfl) (hc.getNd 0 rfl) (by omega) (by omega)) (by first | exact Nat.le_refl _ | exact Nat.zero_le _ | (simp only [List.length_append, List.length_cons, List.length_nil]; omega) | (simp only [List.length_set]; omega) | omega) (by first | exact Nat.le_refl _ | exact Nat.zero_le _ | (simp only [List.length_append, List.length_cons, List.length_nil]; omega) | (simp only [List.length_set]; omega) | omega) ?_
  rintro _ H0 ⟨rfl, hM0⟩
  obtain ⟨y0, hy0, hc0⟩ := (hc.push _).mark 0 rfl hM0
  have hb0 := hc0.bx 0 rfl
  repeat' (first | (refine KV.run _ ?_) | (refine KQ.run _ ?_) | (refine KT.run _ ?_) | (refine AWp.seqH fun KC => ?_) | (refine AWp.block ?_) | (refine AWp.region ?_) | (refine mops_step0 rfl rfl fun KC => ?_) | (refine mops_step1 rfl fun KC => ?_) | (refine mops_step2 rfl fun KC => ?_) | (refine AWp.ret ?_) | (refine AWp.skip ?_) | (refine AWp.exit ?_) | (refine aops_callH rfl fun kC => ?_) | (refine qops_callH rfl fun kC => ?_) | (refine AWp.condB ?_) | (simp only [bse, wk, tys, storeH_ptr, Nat.reduceEqDiff, ↓reduceIte, reduceCtorEq, Nat.reduceAdd, Nat.reduceLeDiff, Int.reduceBEq, Int.reduceLT, Int.reduceLE, Int.reduceEq, ne_eq, not_false_eq_true, Nat.reduceMul, clusterE_val, clusterE_sz, clusterResultE_val, clusterResultE_sz, quorumE_val, quorumE_sz, *]) | (refine condK_bool (fun hb => ?_) (fun hb => ?_) <;> ((try simp only [Bool.not_eq_true', Bool.not_eq_false'] at hb) <;> (try (have hbe := of_decide_eq_true hb)) <;> (try (have hbe := eq_of_beq hb)))) | (refine aops_partB ?_) | (refine qops_partB ?_))
  obtain ⟨ys0, rfl, p0⟩ := OwnL.aggJ (hc0.get 0 rfl)
  obtain ⟨k_0_0, c_0_0, m_0_0, _, _, rfl, _, w_0_0, p0_n1⟩ := OwnL.slY p0
  haveI im_0_0 : ImC (isl k_0_0 c_0_0) := ⟨w_0_0.im1⟩
  obtain ⟨m_0_1, rfl, p0_n2⟩ := OwnL.flatJ p0_n1 rfl (fun _ => by simp)
  obtain ⟨k_0_2, c_0_2, m_0_2, _, _, rfl, _, w_0_2, p0_n3⟩ := OwnL.slY p0_n2
  haveI im_0_2 : ImC (isl k_0_2 c_0_2) := ⟨w_0_2.im1⟩
  obtain ⟨k_0_3, c_0_3, m_0_3, _, _, rfl, _, w_0_3, p0_n4⟩ := OwnL.slY p0_n3
  haveI im_0_3 : ImC (isl k_0_3 c_0_3) := ⟨w_0_3.im1⟩
  obtain ⟨k_0_4, c_0_4, m_0_4, _, _, rfl, _, w_0_4, p0_n5⟩ := OwnL.slY p0_n4
  haveI im_0_4 : ImC (isl k_0_4 c_0_4) := ⟨w_0_4.im1⟩
  obtain ⟨k_0_5, c_0_5, m_0_5, _, _, rfl, _, w_0_5, p0_n6⟩ := OwnL.slY p0_n5
  haveI im_0_5 : ImC (isl k_0_5 c_0_5) := ⟨w_0_5.im1⟩
  obtain ⟨k_0_6, c_0_6, m_0_6, _, _, rfl, _, w_0_6, p0_n7⟩ := OwnL.slY p0_n6
  haveI im_0_6 : ImC (isl k_0_6 c_0_6) := ⟨w_0_6.im1⟩
  obtain ⟨rfl, _⟩ := OwnL.nilJ p0_n7
  have hh : PCalls Try.prog 15 [.agg #[.int .i64 x.code, isl k_0_0 c_0_0, .int .i64 x.cluster.quorum.need, isl k_0_2 c_0_2, isl k_0_3 c_0_3, isl k_0_4 c_0_4, isl k_0_5 c_0_5, isl k_0_6 c_0_6], .int .i64 k] (.int .i64 (k + ((mCluster x.cluster : Nat) : Int))) := by
    have q0 : ¬ k + ((mCluster x.cluster : Nat) : Int) < 0 := by omega
    refine PCalls.flat rfl ?_; refine ACalls.enter (n := 12) (rs := [.tmp 4]) Try.func15 rfl rfl rfl (by kernel_rfl) (by kernel_rfl) (by kernel_rfl) (Nat.le_of_ble_eq_true rfl) ?_
    repeat' (first | (refine ACalls.start ?_; first | (refine ACalls.ofJi (hy0) rfl ?_)) | (refine qcall_start ?_; first | (refine qcallFi (hy0) rfl ?_ ?_; (focus ((first | exact rfl | (simp [pureV, flatV, clusterE_val, clusterE_sz, clusterResultE_val, clusterResultE_sz, quorumE_val, quorumE_sz]; done)))))) | (refine KV.run _ ?_) | (refine KQ.run _ ?_) | (refine KT.run _ ?_) | (refine AWp.seqH fun KC => ?_) | (refine AWp.block ?_) | (refine AWp.region ?_) | (refine mops_step0 rfl rfl fun KC => ?_) | (refine mops_step1 rfl fun KC => ?_) | (refine mops_step2 rfl fun KC => ?_) | (refine AWp.ret ?_) | (refine AWp.skip ?_) | (refine AWp.exit ?_) | (refine aops_callH rfl fun kC => ?_) | (refine qops_callH rfl fun kC => ?_) | (refine AWp.condB ?_) | (simp only [bse, wk, tys, storeH_ptr, Nat.reduceEqDiff, ↓reduceIte, reduceCtorEq, Nat.reduceAdd, Nat.reduceLeDiff, Int.reduceBEq, Int.reduceLT, Int.reduceLE, Int.reduceEq, ne_eq, not_false_eq_true, Nat.reduceMul, clusterE_val, clusterE_sz, clusterResultE_val, clusterResultE_sz, quorumE_val, quorumE_sz, *]) | (refine condK_bool (fun hb => ?_) (fun hb => ?_) <;> ((try simp only [Bool.not_eq_true', Bool.not_eq_false'] at hb) <;> (try (have hbe := of_decide_eq_true hb)) <;> (try (have hbe := eq_of_beq hb)))) | (refine aops_partB ?_) | (refine qops_partB ?_))
  have ek : k + ((mCluster x.cluster : Nat) : Int) = k + ((mCluster x.cluster : Nat) : Int) := by omega
  rw [ek] at hh
  try rw [ek]
  try (refine And.intro ?_ ?_; focus (first | rfl | omega | (congr 1; omega)))
  refine ⟨by have := hM0.len; simp only [List.length_append, List.length_cons, List.length_nil] at *; omega, fun r hr hs => (hM0.old r (by have := hM0.len; simp only [List.length_append, List.length_cons, List.length_nil] at *; omega) (fun h => hs (by first | exact h | (simp at h ⊢; grind)))).trans (List.getElem?_append_left hr), _, ?_, hh⟩
  have hS : OwnL true H0 [.agg #[.int .i64 x.code, .slice a_1 n_1 v_1, .int .i64 x.cluster.quorum.need, .slice a_3 n_3 v_3, .slice a_4 n_4 v_4, .slice a_5 n_5 v_5, .slice a_6 n_6 v_6, .slice a_7 n_7 v_7]] [.agg #[.int .i64 x.code, isl k_0_0 c_0_0, .int .i64 x.cluster.quorum.need, isl k_0_2 c_0_2, isl k_0_3 c_0_3, isl k_0_4 c_0_4, isl k_0_5 c_0_5, isl k_0_6 c_0_6]] _ := OwnL.aggL (.flat rfl (OwnL.append (OwnL.unagg (hc0.get 0 rfl)) (.nil)))
  first | exact hS | simpa using hS
end Go.BM
