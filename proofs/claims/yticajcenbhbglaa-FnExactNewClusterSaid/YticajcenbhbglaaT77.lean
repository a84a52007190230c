/- FnExactNewCluster over data. -/
import Derived.Test.YticajcenbhbglaaT74
import Derived.Test.YticajcenbhbglaaT76
set_option linter.unusedVariables false
set_option linter.unusedSimpArgs false
set_option maxRecDepth 100000
set_option maxHeartbeats 4000000
namespace Go.BM
open Go.Proofs Go.RowKit
attribute [local irreducible] ACalls AWp aops qops optK optP cK gateA condK mops qcallK PCalls loadV fldV idxV lenV slV storeH binS
theorem sum_zero {α : Type} (f : α → Nat) : ∀ l : List α, (∀ x ∈ l, f x = 0) → (l.map f).sum = 0
  | [], _ => rfl
  | x :: l, h => by
    rw [List.map_cons, List.sum_cons, h x (by simp), sum_zero f l fun y hy => h y (by simp [hy])]
theorem newVs_plain (ks : List Int) : ∀ v ∈ newVs ks, v.choices = [] := fun v hv => by
  unfold newVs at hv
  obtain ⟨k, _, rfl⟩ := List.mem_map.1 hv
  rfl
theorem new_small (q : TQuorum) (bad : List Int) (n : Int) : PlainC (newClusterF q bad n).cluster ∧ nClusterResult (newClusterF q bad n) ≤ 1000 ∧ mClusterResult (newClusterF q bad n) ≤ 1000 := by
  have herr : ∀ c, PlainC (errC c).cluster ∧ nClusterResult (errC c) ≤ 1000 ∧ mClusterResult (errC c) ≤ 1000 := fun c =>
    ⟨⟨fun v hv => by simp [errC] at hv, fun v hv => by simp [errC] at hv, by simp [errC], by simp [errC]⟩, by simp [errC, nClusterResult, nCluster, sumN, nQuorum], by simp [errC, mClusterResult, mCluster, mQuorum, mVoterS, mInt64SS]⟩
  unfold newClusterF
  split
  · exact herr _
  · rename_i h1
    split
    · exact herr _
    · rename_i h2
      split
      · exact herr _
      · have hq : quorumFault q.keys q.need = 0 := by simpa using h1
        obtain ⟨hk, _⟩ := good_rising (bs := bad) hq
        have hg := goodL_len q.keys bad
        simp only [Bool.or_eq_true, decide_eq_true_eq, not_or, Bool.not_eq_true', inB] at h2
        have hn : n.toNat ≤ 4 := by have := h2.2; simp at this; omega
        have hb : bad.length ≤ 20 := by omega
        have hv : (newVs (goodL q.keys bad)).length = (goodL q.keys bad).length := List.length_map ..
        have hrep : ∀ y ∈ (List.replicate n.toNat [] : List (List Int)), y = [] := fun y hy => (List.mem_replicate.1 hy).2
        have s1 := sum_zero chLen (newVs (goodL q.keys bad)) fun v hv => by unfold chLen; rw [newVs_plain _ v hv]; rfl
        have s2 := sum_zero List.length (List.replicate n.toNat [] : List (List Int)) fun y hy => by rw [hrep y hy]; rfl
        refine ⟨⟨newVs_plain _, hrep, by dsimp only; omega, by dsimp only; rw [List.length_replicate]; omega⟩, ?_, ?_⟩
        · unfold nClusterResult nCluster sumN
          dsimp only
          rw [s1, s2, List.length_replicate]
          simp
          omega
        · unfold mClusterResult mCluster mQuorum mVoterS mInt64SS
          dsimp only
          simp
          omega
theorem law_NewCluster (q : TQuorum) (bad : List Int) (n : Int) (l_q : limQuorum q) (l_bad : bad.length ≤ 9223372036854775807) : PCalls Try.prog 3 [quorumE.val q, islE intE bad, .int .i64 n] (.bool true) := by
  by_cases b_bad : (1048576 : Int) < (bad.length : Int)
  · refine PCalls.flat rfl ?_; refine ACalls.enter (n := 95) (rs := [.tmp 6]) Try.func3 rfl rfl rfl (by kernel_rfl) (by kernel_rfl) (by kernel_rfl) (Nat.le_of_ble_eq_true rfl) ?_
    repeat' (first | (refine AWp.mixed (id := 13) [(0, 0), (1, 0), (2, 1), (3, 1), (4, 0)] (by kernel_rfl) (by kernel_rfl) ?_) | (refine KV.run _ ?_) | (refine KQ.run _ ?_) | (refine KT.run _ ?_) | (refine AWp.seqH fun KC => ?_) | (refine AWp.block ?_) | (refine AWp.region ?_) | (refine mops_step0 rfl rfl fun KC => ?_) | (refine mops_step1 rfl fun KC => ?_) | (refine mops_step2 rfl fun KC => ?_) | (refine AWp.ret ?_) | (refine AWp.skip ?_) | (refine AWp.exit ?_) | (refine aops_callH rfl fun kC => ?_) | (refine qops_callH rfl fun kC => ?_) | (refine AWp.condB ?_) | (simp only [bse, wk, tys, storeH_ptr, Nat.reduceEqDiff, ↓reduceIte, reduceCtorEq, Nat.reduceAdd, Nat.reduceLeDiff, Int.reduceBEq, Int.reduceLT, Int.reduceLE, Int.reduceEq, ne_eq, not_false_eq_true, Nat.reduceMul, quorumE_val, quorumE_sz, clusterResultE_val, clusterResultE_sz, clusterE_val, clusterE_sz, nodeE_val, nodeE_sz, voterE_val, voterE_sz, choiceE_val, choiceE_sz, refE_val, refE_sz, voteE_val, voteE_sz, *]) | (refine condK_bool (fun hb => ?_) (fun hb => ?_) <;> ((try simp only [Bool.not_eq_true', Bool.not_eq_false'] at hb) <;> (try (have hbe := of_decide_eq_true hb)) <;> (try (have hbe := eq_of_beq hb)))) | (refine aops_partB ?_) | (refine qops_partB ?_))
  by_cases h_q : szI (nQuorum q) (1048576) < 0
  · refine PCalls.flat rfl ?_; refine ACalls.enter (n := 95) (rs := [.tmp 6]) Try.func3 rfl rfl rfl (by kernel_rfl) (by kernel_rfl) (by kernel_rfl) (Nat.le_of_ble_eq_true rfl) ?_
    repeat' (first | (refine AWp.mixed (id := 13) [(0, 0), (1, 0), (2, 1), (3, 1), (4, 0)] (by kernel_rfl) (by kernel_rfl) ?_) | (refine ACalls.start ?_; first | (refine ACalls.ofJi (laws_szQuorum q (1048576) (by omega) (by omega) l_q) rfl ?_)) | (refine qcall_start ?_; first | (refine qcallFi (laws_szQuorum q (1048576) (by omega) (by omega) l_q) rfl ?_ ?_; (focus ((first | exact rfl | (simp [pureV, flatV, quorumE_val, quorumE_sz, clusterResultE_val, clusterResultE_sz, clusterE_val, clusterE_sz, nodeE_val, nodeE_sz, voterE_val, voterE_sz, choiceE_val, choiceE_sz, refE_val, refE_sz, voteE_val, voteE_sz]; done)))))) | (refine KV.run _ ?_) | (refine KQ.run _ ?_) | (refine KT.run _ ?_) | (refine AWp.seqH fun KC => ?_) | (refine AWp.block ?_) | (refine AWp.region ?_) | (refine mops_step0 rfl rfl fun KC => ?_) | (refine mops_step1 rfl fun KC => ?_) | (refine mops_step2 rfl fun KC => ?_) | (refine AWp.ret ?_) | (refine AWp.skip ?_) | (refine AWp.exit ?_) | (refine aops_callH rfl fun kC => ?_) | (refine qops_callH rfl fun kC => ?_) | (refine AWp.condB ?_) | (simp only [bse, wk, tys, storeH_ptr, Nat.reduceEqDiff, ↓reduceIte, reduceCtorEq, Nat.reduceAdd, Nat.reduceLeDiff, Int.reduceBEq, Int.reduceLT, Int.reduceLE, Int.reduceEq, ne_eq, not_false_eq_true, Nat.reduceMul, quorumE_val, quorumE_sz, clusterResultE_val, clusterResultE_sz, clusterE_val, clusterE_sz, nodeE_val, nodeE_sz, voterE_val, voterE_sz, choiceE_val, choiceE_sz, refE_val, refE_sz, voteE_val, voteE_sz, *]) | (refine condK_bool (fun hb => ?_) (fun hb => ?_) <;> ((try simp only [Bool.not_eq_true', Bool.not_eq_false'] at hb) <;> (try (have hbe := of_decide_eq_true hb)) <;> (try (have hbe := eq_of_beq hb)))) | (refine aops_partB ?_) | (refine qops_partB ?_))
  have n_bad : bad.length ≤ 1048576 := by omega
  have n_q : nQuorum q ≤ 1048576 := by unfold szI at *; (repeat' split at *) <;> omega
  have hsm := new_small q bad n
  obtain ⟨w, hw⟩ : ∃ w, w = newClusterF q bad n := ⟨_, rfl⟩
  have hspec := spec_NewCluster q bad n n_q n_bad
  have himpl := impl_NewCluster q bad n n_q n_bad
  rw [← hw] at hsm hspec himpl
  obtain ⟨hPl, hR0, hmR0⟩ := hsm
  have hR : nClusterResult w ≤ 1048576 := by omega
  clear hw
  have hm_q : mQuorum q ≤ 100000000 := by first | omega | (unfold mQuorum; unfold nQuorum at n_q; omega)
  have hm_bad : bad.length ≤ 100000000 := by first | omega | (unfold mQuorum; unfold nQuorum at n_q; omega)
  have hmR : mClusterResult w ≤ 100000000 := by omega
  have hqR : ¬ (1 : Int) + ((mClusterResult w : Nat) : Int) < 0 := by omega
  have heq := laws_eqClusterResult w hR
  simp only [clusterResultE_val] at heq hspec himpl
  have himp2 := himpl.p
  refine PCalls.flat rfl ?_; refine ACalls.enter (n := 95) (rs := [.tmp 6]) Try.func3 rfl rfl rfl (by kernel_rfl) (by kernel_rfl) (by kernel_rfl) (Nat.le_of_ble_eq_true rfl) ?_
  repeat' (first | (refine AWp.mixed (id := 13) [(0, 0), (1, 0), (2, 1), (3, 1), (4, 0)] (by kernel_rfl) (by kernel_rfl) ?_) | (refine ACalls.start ?_; first | (refine ACalls.ofJi (laws_szQuorum q (1048576) (by omega) (by omega) l_q) rfl ?_) | (refine ACalls.ofJi (laws_toQuorum q n_q) rfl ?_) | (refine ACalls.ofJi (laws_toInt64S bad (by omega)) rfl ?_)) | (refine qcall_start ?_; first | (refine qcallFi (laws_szQuorum q (1048576) (by omega) (by omega) l_q) rfl ?_ ?_; (focus ((first | exact rfl | (simp [pureV, flatV, quorumE_val, quorumE_sz, clusterResultE_val, clusterResultE_sz, clusterE_val, clusterE_sz, nodeE_val, nodeE_sz, voterE_val, voterE_sz, choiceE_val, choiceE_sz, refE_val, refE_sz, voteE_val, voteE_sz]; done))))) | (refine qcallFi (laws_toQuorum q n_q) rfl ?_ ?_; (focus ((first | exact rfl | (simp [pureV, flatV, quorumE_val, quorumE_sz, clusterResultE_val, clusterResultE_sz, clusterE_val, clusterE_sz, nodeE_val, nodeE_sz, voterE_val, voterE_sz, choiceE_val, choiceE_sz, refE_val, refE_sz, voteE_val, voteE_sz]; done))))) | (refine qcallFi (laws_toInt64S bad (by omega)) rfl ?_ ?_; (focus ((first | exact rfl | (simp [pureV, flatV, quorumE_val, quorumE_sz, clusterResultE_val, clusterResultE_sz, clusterE_val, clusterE_sz, nodeE_val, nodeE_sz, voterE_val, voterE_sz, choiceE_val, choiceE_sz, refE_val, refE_sz, voteE_val, voteE_sz]; done)))))) | (refine KV.run _ ?_) | (refine KQ.run _ ?_) | (refine KT.run _ ?_) | (refine AWp.seqH fun KC => ?_) | (refine AWp.block ?_) | (refine AWp.region ?_) | (refine mops_step0 rfl rfl fun KC => ?_) | (refine mops_step1 rfl fun KC => ?_) | (refine mops_step2 rfl fun KC => ?_) | (refine AWp.ret ?_) | (refine AWp.skip ?_) | (refine AWp.exit ?_) | (refine aops_callH rfl fun kC => ?_) | (refine qops_callH rfl fun kC => ?_) | (refine AWp.condB ?_) | (simp only [bse, wk, tys, storeH_ptr, Nat.reduceEqDiff, ↓reduceIte, reduceCtorEq, Nat.reduceAdd, Nat.reduceLeDiff, Int.reduceBEq, Int.reduceLT, Int.reduceLE, Int.reduceEq, ne_eq, not_false_eq_true, Nat.reduceMul, quorumE_val, quorumE_sz, clusterResultE_val, clusterResultE_sz, clusterE_val, clusterE_sz, nodeE_val, nodeE_sz, voterE_val, voterE_sz, choiceE_val, choiceE_sz, refE_val, refE_sz, voteE_val, voteE_sz, *]) | (refine condK_bool (fun hb => ?_) (fun hb => ?_) <;> ((try simp only [Bool.not_eq_true', Bool.not_eq_false'] at hb) <;> (try (have hbe := of_decide_eq_true hb)) <;> (try (have hbe := eq_of_beq hb)))) | (refine aops_partB ?_) | (refine qops_partB ?_))
  refine ACalls.ofJ hspec rfl ?_ ?_ ?_
  · (repeat' (first | exact Im.nilL | refine Im.consL ?_ ?_ | refine Im.appL ?_ ?_ | exact Im.flat _ rfl | exact islE_im _ _ | exact Enc.val_im _ _ | assumption | refine Im.aggL ?_ | refine Im.tupleL ?_ | refine Im.funcL ?_ | refine Im.funcA ?_ | refine Im.isl ?_ | refine Im.ip ?_)); done
  · (repeat' (first | exact Im.nilL | refine Im.consL ?_ ?_ | refine Im.appL ?_ ?_ | exact Im.flat _ rfl | exact islE_im _ _ | exact Enc.val_im _ _ | assumption | refine Im.aggL ?_ | refine Im.tupleL ?_ | refine Im.funcL ?_ | refine Im.funcA ?_ | refine Im.isl ?_ | refine Im.ip ?_)); done
  clear hspec
  repeat' (first | (refine AWp.mixed (id := 13) [(0, 0), (1, 0), (2, 1), (3, 1), (4, 0)] (by kernel_rfl) (by kernel_rfl) ?_) | (refine KV.run _ ?_) | (refine KQ.run _ ?_) | (refine KT.run _ ?_) | (refine AWp.seqH fun KC => ?_) | (refine AWp.block ?_) | (refine AWp.region ?_) | (refine mops_step0 rfl rfl fun KC => ?_) | (refine mops_step1 rfl fun KC => ?_) | (refine mops_step2 rfl fun KC => ?_) | (refine AWp.ret ?_) | (refine AWp.skip ?_) | (refine AWp.exit ?_) | (refine aops_callH rfl fun kC => ?_) | (refine qops_callH rfl fun kC => ?_) | (refine AWp.condB ?_) | (simp only [bse, wk, tys, storeH_ptr, Nat.reduceEqDiff, ↓reduceIte, reduceCtorEq, Nat.reduceAdd, Nat.reduceLeDiff, Int.reduceBEq, Int.reduceLT, Int.reduceLE, Int.reduceEq, ne_eq, not_false_eq_true, Nat.reduceMul, quorumE_val, quorumE_sz, clusterResultE_val, clusterResultE_sz, clusterE_val, clusterE_sz, nodeE_val, nodeE_sz, voterE_val, voterE_sz, choiceE_val, choiceE_sz, refE_val, refE_sz, voteE_val, voteE_sz, *]) | (refine condK_bool (fun hb => ?_) (fun hb => ?_) <;> ((try simp only [Bool.not_eq_true', Bool.not_eq_false'] at hb) <;> (try (have hbe := of_decide_eq_true hb)) <;> (try (have hbe := eq_of_beq hb)))) | (refine aops_partB ?_) | (refine qops_partB ?_))
  refine ACalls.absL ?_
  intro H1 hc
  have hb0 := hc.bx 0 rfl
  have hb1 := hc.bx 1 rfl
  try simp only [List.length_nil, Nat.zero_add, Nat.reduceAdd] at hb0 hb1
  have ha0 := fun b : Blk => get_old (L := [b]) hb0
  have ha1 := fun b : Blk => get_old (L := [b]) hb1
  repeat' (first | (refine AWp.mixed (id := 13) [(0, 0), (1, 0), (2, 1), (3, 1), (4, 0)] (by kernel_rfl) (by kernel_rfl) ?_) | (refine KV.run _ ?_) | (refine KQ.run _ ?_) | (refine KT.run _ ?_) | (refine AWp.seqH fun KC => ?_) | (refine AWp.block ?_) | (refine AWp.region ?_) | (refine mops_step0 rfl rfl fun KC => ?_) | (refine mops_step1 rfl fun KC => ?_) | (refine mops_step2 rfl fun KC => ?_) | (refine AWp.ret ?_) | (refine AWp.skip ?_) | (refine AWp.exit ?_) | (refine aops_callH rfl fun kC => ?_) | (refine qops_callH rfl fun kC => ?_) | (refine AWp.condB ?_) | (simp only [bse, wk, tys, storeH_ptr, Nat.reduceEqDiff, ↓reduceIte, reduceCtorEq, Nat.reduceAdd, Nat.reduceLeDiff, Int.reduceBEq, Int.reduceLT, Int.reduceLE, Int.reduceEq, ne_eq, not_false_eq_true, Nat.reduceMul, quorumE_val, quorumE_sz, clusterResultE_val, clusterResultE_sz, clusterE_val, clusterE_sz, nodeE_val, nodeE_sz, voterE_val, voterE_sz, choiceE_val, choiceE_sz, refE_val, refE_sz, voteE_val, voteE_sz, *]) | (refine condK_bool (fun hb => ?_) (fun hb => ?_) <;> ((try simp only [Bool.not_eq_true', Bool.not_eq_false'] at hb) <;> (try (have hbe := of_decide_eq_true hb)) <;> (try (have hbe := eq_of_beq hb)))) | (refine aops_partB ?_) | (refine qops_partB ?_))
  refine ACalls.get (NCalls.use (own_toQuorum q n_q) (BorL.same (by repeat' (first | exact Im.nilL | refine Im.consL ?_ ?_ | refine Im.appL ?_ ?_ | exact Im.flat _ rfl | exact islE_im _ _ | exact Enc.val_im _ _ | assumption | refine Im.aggL ?_ | refine Im.funcL ?_ | refine Im.funcA ?_ | refine Im.isl ?_ | refine Im.ip ?_)))) (by first | exact Nat.le_refl _ | exact Nat.zero_le _ | (simp only [List.length_append, List.length_cons, List.length_nil]; omega) | (simp only [List.length_set]; omega) | omega) (by first | exact Nat.le_refl _ | exact Nat.zero_le _ | (simp only [List.length_append, List.length_cons, List.length_nil]; omega) | (simp only [List.length_set]; omega) | omega) ?_
  rintro d0 H2 ⟨S0, hN0⟩
  have px0 := hN0.own
  rw [quorumE_val] at px0
  obtain ⟨xsx0, rfl, ox0⟩ := OwnL.aggI px0
  clear px0
  obtain ⟨d_x0_0, m_x0_0, S_x0_0, R_x0_0, rfl, rfl, p_x0_0, ox0_n1⟩ := OwnL.consI ox0
  obtain ⟨a_x0_0, n_x0_0, v_x0_0, rfl⟩ := OwnL.slD p_x0_0
  obtain ⟨m_x0_1, rfl, ox0_n2⟩ := OwnL.flatI ox0_n1 rfl
  obtain ⟨rfl, rfl⟩ := OwnL.nilI ox0_n2
  clear ox0_n1 ox0_n2
  have hc := hc.new hN0
  clear hN0
  simp only [List.nil_append, List.cons_append] at hc
  clear hb0 ha0 hb1 ha1
  have hb0 := hc.bx 0 rfl
  have hb1 := hc.bx 1 rfl
  try simp only [List.length_nil, Nat.zero_add, Nat.reduceAdd] at hb0 hb1
  have ha0 := fun b : Blk => get_old (L := [b]) hb0
  have ha1 := fun b : Blk => get_old (L := [b]) hb1
  repeat' (first | (refine AWp.mixed (id := 13) [(0, 0), (1, 0), (2, 1), (3, 1), (4, 0)] (by kernel_rfl) (by kernel_rfl) ?_) | (refine KV.run _ ?_) | (refine KQ.run _ ?_) | (refine KT.run _ ?_) | (refine AWp.seqH fun KC => ?_) | (refine AWp.block ?_) | (refine AWp.region ?_) | (refine mops_step0 rfl rfl fun KC => ?_) | (refine mops_step1 rfl fun KC => ?_) | (refine mops_step2 rfl fun KC => ?_) | (refine AWp.ret ?_) | (refine AWp.skip ?_) | (refine AWp.exit ?_) | (refine aops_callH rfl fun kC => ?_) | (refine qops_callH rfl fun kC => ?_) | (refine AWp.condB ?_) | (simp only [bse, wk, tys, storeH_ptr, Nat.reduceEqDiff, ↓reduceIte, reduceCtorEq, Nat.reduceAdd, Nat.reduceLeDiff, Int.reduceBEq, Int.reduceLT, Int.reduceLE, Int.reduceEq, ne_eq, not_false_eq_true, Nat.reduceMul, quorumE_val, quorumE_sz, clusterResultE_val, clusterResultE_sz, clusterE_val, clusterE_sz, nodeE_val, nodeE_sz, voterE_val, voterE_sz, choiceE_val, choiceE_sz, refE_val, refE_sz, voteE_val, voteE_sz, *]) | (refine condK_bool (fun hb => ?_) (fun hb => ?_) <;> ((try simp only [Bool.not_eq_true', Bool.not_eq_false'] at hb) <;> (try (have hbe := of_decide_eq_true hb)) <;> (try (have hbe := eq_of_beq hb)))) | (refine aops_partB ?_) | (refine qops_partB ?_))
  refine ACalls.absb hc ?_
  intro H3 hc
  clear hb0 ha0 hb1 ha1
  have hb0 := hc.bx 0 rfl
  have hb1 := hc.bx 1 rfl
  have hb2 := hc.bx 2 rfl
  try simp only [List.length_nil, Nat.zero_add, Nat.reduceAdd] at hb0 hb1 hb2
  have ha0 := fun b : Blk => get_old (L := [b]) hb0
  have ha1 := fun b : Blk => get_old (L := [b]) hb1
  have ha2 := fun b : Blk => get_old (L := [b]) hb2
  refine ACalls.get (NCalls.use (own_toInt64S bad (by omega)) (BorL.same (by repeat' (first | exact Im.nilL | refine Im.consL ?_ ?_ | refine Im.appL ?_ ?_ | exact Im.flat _ rfl | exact islE_im _ _ | exact Enc.val_im _ _ | assumption | refine Im.aggL ?_ | refine Im.funcL ?_ | refine Im.funcA ?_ | refine Im.isl ?_ | refine Im.ip ?_)))) (by first | exact Nat.le_refl _ | exact Nat.zero_le _ | (simp only [List.length_append, List.length_cons, List.length_nil]; omega) | (simp only [List.length_set]; omega) | omega) (by first | exact Nat.le_refl _ | exact Nat.zero_le _ | (simp only [List.length_append, List.length_cons, List.length_nil]; omega) | (simp only [List.length_set]; omega) | omega) ?_
  rintro d1 H4 ⟨S1, hN1⟩
  obtain ⟨ax1, nx1, vx1, rfl⟩ := hN1.own.slD
  have hc := hc.new hN1
  clear hN1
  simp only [List.nil_append, List.cons_append] at hc
  clear hb0 ha0 hb1 ha1 hb2 ha2
  have hb0 := hc.bx 0 rfl
  have hb1 := hc.bx 1 rfl
  have hb2 := hc.bx 2 rfl
  try simp only [List.length_nil, Nat.zero_add, Nat.reduceAdd] at hb0 hb1 hb2
  have ha0 := fun b : Blk => get_old (L := [b]) hb0
  have ha1 := fun b : Blk => get_old (L := [b]) hb1
  have ha2 := fun b : Blk => get_old (L := [b]) hb2
  repeat' (first | (refine AWp.mixed (id := 13) [(0, 0), (1, 0), (2, 1), (3, 1), (4, 0)] (by kernel_rfl) (by kernel_rfl) ?_) | (refine KV.run _ ?_) | (refine KQ.run _ ?_) | (refine KT.run _ ?_) | (refine AWp.seqH fun KC => ?_) | (refine AWp.block ?_) | (refine AWp.region ?_) | (refine mops_step0 rfl rfl fun KC => ?_) | (refine mops_step1 rfl fun KC => ?_) | (refine mops_step2 rfl fun KC => ?_) | (refine AWp.ret ?_) | (refine AWp.skip ?_) | (refine AWp.exit ?_) | (refine aops_callH rfl fun kC => ?_) | (refine qops_callH rfl fun kC => ?_) | (refine AWp.condB ?_) | (simp only [bse, wk, tys, storeH_ptr, Nat.reduceEqDiff, ↓reduceIte, reduceCtorEq, Nat.reduceAdd, Nat.reduceLeDiff, Int.reduceBEq, Int.reduceLT, Int.reduceLE, Int.reduceEq, ne_eq, not_false_eq_true, Nat.reduceMul, quorumE_val, quorumE_sz, clusterResultE_val, clusterResultE_sz, clusterE_val, clusterE_sz, nodeE_val, nodeE_sz, voterE_val, voterE_sz, choiceE_val, choiceE_sz, refE_val, refE_sz, voteE_val, voteE_sz, *]) | (refine condK_bool (fun hb => ?_) (fun hb => ?_) <;> ((try simp only [Bool.not_eq_true', Bool.not_eq_false'] at hb) <;> (try (have hbe := of_decide_eq_true hb)) <;> (try (have hbe := eq_of_beq hb)))) | (refine aops_partB ?_) | (refine qops_partB ?_))
  refine ACalls.get (NCalls.use himpl (.cons (hc.get 0 rfl).bor1 (.cons (hc.get 1 rfl).bor1 (.cons (.same _ (by first | exact islE_im _ _ | exact Enc.val_im _ _ | exact Im.flat _ rfl | (repeat' (first | exact Im.nilL | refine Im.consL ?_ ?_ | exact Im.flat _ rfl | exact islE_im _ _ | exact Enc.val_im _ _ | refine Im.aggL ?_ | refine Im.tupleL ?_ | refine Im.isl ?_)))) (.nil))))) (by first | exact Nat.le_refl _ | exact Nat.zero_le _ | (simp only [List.length_append, List.length_cons, List.length_nil]; omega) | (simp only [List.length_set]; omega) | omega) (by first | exact Nat.le_refl _ | exact Nat.zero_le _ | (simp only [List.length_append, List.length_cons, List.length_nil]; omega) | (simp only [List.length_set]; omega) | omega) ?_
  rintro dg H5 ⟨Sg, hNg⟩
  have og0 := hNg.own
  obtain ⟨xg, rfl, og⟩ := OwnL.aggI og0
  clear og0
  obtain ⟨m_g_0, rfl, og_n1⟩ := OwnL.flatI og rfl
  obtain ⟨d_g_1, m_g_1, S_g_1, R_g_1, rfl, rfl, p_g_1, og_n2⟩ := OwnL.consI og_n1
  obtain ⟨a_g_1, n_g_1, v_g_1, rfl⟩ := OwnL.slD p_g_1
  obtain ⟨m_g_2, rfl, og_n3⟩ := OwnL.flatI og_n2 rfl
  obtain ⟨d_g_3, m_g_3, S_g_3, R_g_3, rfl, rfl, p_g_3, og_n4⟩ := OwnL.consI og_n3
  obtain ⟨a_g_3, n_g_3, v_g_3, rfl⟩ := OwnL.slD p_g_3
  obtain ⟨d_g_4, m_g_4, S_g_4, R_g_4, rfl, rfl, p_g_4, og_n5⟩ := OwnL.consI og_n4
  obtain ⟨a_g_4, n_g_4, v_g_4, rfl⟩ := OwnL.slD p_g_4
  obtain ⟨d_g_5, m_g_5, S_g_5, R_g_5, rfl, rfl, p_g_5, og_n6⟩ := OwnL.consI og_n5
  obtain ⟨a_g_5, n_g_5, v_g_5, rfl⟩ := OwnL.slD p_g_5
  obtain ⟨d_g_6, m_g_6, S_g_6, R_g_6, rfl, rfl, p_g_6, og_n7⟩ := OwnL.consI og_n6
  obtain ⟨a_g_6, n_g_6, v_g_6, rfl⟩ := OwnL.slD p_g_6
  obtain ⟨d_g_7, m_g_7, S_g_7, R_g_7, rfl, rfl, p_g_7, og_n8⟩ := OwnL.consI og_n7
  obtain ⟨a_g_7, n_g_7, v_g_7, rfl⟩ := OwnL.slD p_g_7
  obtain ⟨rfl, rfl⟩ := OwnL.nilI og_n8
  clear og_n1 og_n2 og_n3 og_n4 og_n5 og_n6 og_n7 og_n8
  have hc := hc.new hNg
  clear hNg
  simp only [List.nil_append, List.cons_append] at hc
  clear hb0 ha0 hb1 ha1 hb2 ha2
  have hb0 := hc.bx 0 rfl
  have hb1 := hc.bx 1 rfl
  have hb2 := hc.bx 2 rfl
  try simp only [List.length_nil, Nat.zero_add, Nat.reduceAdd] at hb0 hb1 hb2
  have ha0 := fun b : Blk => get_old (L := [b]) hb0
  have ha1 := fun b : Blk => get_old (L := [b]) hb1
  have ha2 := fun b : Blk => get_old (L := [b]) hb2
  repeat' (first | (refine AWp.mixed (id := 13) [(0, 0), (1, 0), (2, 1), (3, 1), (4, 0)] (by kernel_rfl) (by kernel_rfl) ?_) | (refine KV.run _ ?_) | (refine KQ.run _ ?_) | (refine KT.run _ ?_) | (refine AWp.seqH fun KC => ?_) | (refine AWp.block ?_) | (refine AWp.region ?_) | (refine mops_step0 rfl rfl fun KC => ?_) | (refine mops_step1 rfl fun KC => ?_) | (refine mops_step2 rfl fun KC => ?_) | (refine AWp.ret ?_) | (refine AWp.skip ?_) | (refine AWp.exit ?_) | (refine aops_callH rfl fun kC => ?_) | (refine qops_callH rfl fun kC => ?_) | (refine AWp.condB ?_) | (simp only [bse, wk, tys, storeH_ptr, Nat.reduceEqDiff, ↓reduceIte, reduceCtorEq, Nat.reduceAdd, Nat.reduceLeDiff, Int.reduceBEq, Int.reduceLT, Int.reduceLE, Int.reduceEq, ne_eq, not_false_eq_true, Nat.reduceMul, quorumE_val, quorumE_sz, clusterResultE_val, clusterResultE_sz, clusterE_val, clusterE_sz, nodeE_val, nodeE_sz, voterE_val, voterE_sz, choiceE_val, choiceE_sz, refE_val, refE_sz, voteE_val, voteE_sz, *]) | (refine condK_bool (fun hb => ?_) (fun hb => ?_) <;> ((try simp only [Bool.not_eq_true', Bool.not_eq_false'] at hb) <;> (try (have hbe := of_decide_eq_true hb)) <;> (try (have hbe := eq_of_beq hb)))) | (refine aops_partB ?_) | (refine qops_partB ?_))
  refine ACalls.absb hc ?_
  intro H6 hc
  clear hb0 ha0 hb1 ha1 hb2 ha2
  have hb0 := hc.bx 0 rfl
  have hb1 := hc.bx 1 rfl
  have hb2 := hc.bx 2 rfl
  have hb3 := hc.bx 3 rfl
  try simp only [List.length_nil, Nat.zero_add, Nat.reduceAdd] at hb0 hb1 hb2 hb3
  have ha0 := fun b : Blk => get_old (L := [b]) hb0
  have ha1 := fun b : Blk => get_old (L := [b]) hb1
  have ha2 := fun b : Blk => get_old (L := [b]) hb2
  have ha3 := fun b : Blk => get_old (L := [b]) hb3
  refine ACalls.ofP (heq) (.cons (hc.get 2 rfl).bor1 (.cons (.same _ (by first | exact islE_im _ _ | exact Enc.val_im _ _ | exact Im.flat _ rfl | (repeat' (first | exact Im.nilL | refine Im.consL ?_ ?_ | exact Im.flat _ rfl | exact islE_im _ _ | exact Enc.val_im _ _ | refine Im.aggL ?_ | refine Im.tupleL ?_ | refine Im.isl ?_)))) (.nil))) rfl ?_
  repeat' (first | (refine AWp.mixed (id := 13) [(0, 0), (1, 0), (2, 1), (3, 1), (4, 0)] (by kernel_rfl) (by kernel_rfl) ?_) | (refine ACalls.start ?_; first | (refine ACalls.ofJi (laws_toQuorum q n_q) rfl ?_) | (refine ACalls.ofJi (laws_toInt64S bad (by omega)) rfl ?_)) | (refine qcall_start ?_; first | (refine qcallFi (laws_toQuorum q n_q) rfl ?_ ?_; (focus ((first | exact rfl | (simp [pureV, flatV, quorumE_val, quorumE_sz, clusterResultE_val, clusterResultE_sz, clusterE_val, clusterE_sz, nodeE_val, nodeE_sz, voterE_val, voterE_sz, choiceE_val, choiceE_sz, refE_val, refE_sz, voteE_val, voteE_sz]; done))))) | (refine qcallFi (laws_toInt64S bad (by omega)) rfl ?_ ?_; (focus ((first | exact rfl | (simp [pureV, flatV, quorumE_val, quorumE_sz, clusterResultE_val, clusterResultE_sz, clusterE_val, clusterE_sz, nodeE_val, nodeE_sz, voterE_val, voterE_sz, choiceE_val, choiceE_sz, refE_val, refE_sz, voteE_val, voteE_sz]; done)))))) | (refine KV.run _ ?_) | (refine KQ.run _ ?_) | (refine KT.run _ ?_) | (refine AWp.seqH fun KC => ?_) | (refine AWp.block ?_) | (refine AWp.region ?_) | (refine mops_step0 rfl rfl fun KC => ?_) | (refine mops_step1 rfl fun KC => ?_) | (refine mops_step2 rfl fun KC => ?_) | (refine AWp.ret ?_) | (refine AWp.skip ?_) | (refine AWp.exit ?_) | (refine aops_callH rfl fun kC => ?_) | (refine qops_callH rfl fun kC => ?_) | (refine AWp.condB ?_) | (simp only [bse, wk, tys, storeH_ptr, Nat.reduceEqDiff, ↓reduceIte, reduceCtorEq, Nat.reduceAdd, Nat.reduceLeDiff, Int.reduceBEq, Int.reduceLT, Int.reduceLE, Int.reduceEq, ne_eq, not_false_eq_true, Nat.reduceMul, quorumE_val, quorumE_sz, clusterResultE_val, clusterResultE_sz, clusterE_val, clusterE_sz, nodeE_val, nodeE_sz, voterE_val, voterE_sz, choiceE_val, choiceE_sz, refE_val, refE_sz, voteE_val, voteE_sz, *]) | (refine condK_bool (fun hb => ?_) (fun hb => ?_) <;> ((try simp only [Bool.not_eq_true', Bool.not_eq_false'] at hb) <;> (try (have hbe := of_decide_eq_true hb)) <;> (try (have hbe := eq_of_beq hb)))) | (refine aops_partB ?_) | (refine qops_partB ?_))
  refine ACalls.ofP (laws_eqQuorum q n_q) (.cons (hc.get 0 rfl).bor1 (.cons (.same _ (by first | exact islE_im _ _ | exact Enc.val_im _ _ | exact Im.flat _ rfl | (repeat' (first | exact Im.nilL | refine Im.consL ?_ ?_ | exact Im.flat _ rfl | exact islE_im _ _ | exact Enc.val_im _ _ | refine Im.aggL ?_ | refine Im.tupleL ?_ | refine Im.isl ?_)))) (.nil))) rfl ?_
  repeat' (first | (refine AWp.mixed (id := 13) [(0, 0), (1, 0), (2, 1), (3, 1), (4, 0)] (by kernel_rfl) (by kernel_rfl) ?_) | (refine ACalls.start ?_; first | (refine ACalls.ofJi (laws_toQuorum q n_q) rfl ?_) | (refine ACalls.ofJi (laws_toInt64S bad (by omega)) rfl ?_)) | (refine qcall_start ?_; first | (refine qcallFi (laws_toQuorum q n_q) rfl ?_ ?_; (focus ((first | exact rfl | (simp [pureV, flatV, quorumE_val, quorumE_sz, clusterResultE_val, clusterResultE_sz, clusterE_val, clusterE_sz, nodeE_val, nodeE_sz, voterE_val, voterE_sz, choiceE_val, choiceE_sz, refE_val, refE_sz, voteE_val, voteE_sz]; done))))) | (refine qcallFi (laws_toInt64S bad (by omega)) rfl ?_ ?_; (focus ((first | exact rfl | (simp [pureV, flatV, quorumE_val, quorumE_sz, clusterResultE_val, clusterResultE_sz, clusterE_val, clusterE_sz, nodeE_val, nodeE_sz, voterE_val, voterE_sz, choiceE_val, choiceE_sz, refE_val, refE_sz, voteE_val, voteE_sz]; done)))))) | (refine KV.run _ ?_) | (refine KQ.run _ ?_) | (refine KT.run _ ?_) | (refine AWp.seqH fun KC => ?_) | (refine AWp.block ?_) | (refine AWp.region ?_) | (refine mops_step0 rfl rfl fun KC => ?_) | (refine mops_step1 rfl fun KC => ?_) | (refine mops_step2 rfl fun KC => ?_) | (refine AWp.ret ?_) | (refine AWp.skip ?_) | (refine AWp.exit ?_) | (refine aops_callH rfl fun kC => ?_) | (refine qops_callH rfl fun kC => ?_) | (refine AWp.condB ?_) | (simp only [bse, wk, tys, storeH_ptr, Nat.reduceEqDiff, ↓reduceIte, reduceCtorEq, Nat.reduceAdd, Nat.reduceLeDiff, Int.reduceBEq, Int.reduceLT, Int.reduceLE, Int.reduceEq, ne_eq, not_false_eq_true, Nat.reduceMul, quorumE_val, quorumE_sz, clusterResultE_val, clusterResultE_sz, clusterE_val, clusterE_sz, nodeE_val, nodeE_sz, voterE_val, voterE_sz, choiceE_val, choiceE_sz, refE_val, refE_sz, voteE_val, voteE_sz, *]) | (refine condK_bool (fun hb => ?_) (fun hb => ?_) <;> ((try simp only [Bool.not_eq_true', Bool.not_eq_false'] at hb) <;> (try (have hbe := of_decide_eq_true hb)) <;> (try (have hbe := eq_of_beq hb)))) | (refine aops_partB ?_) | (refine qops_partB ?_))
  refine ACalls.ofP (laws_eqInt64S bad (by omega)) (.cons (hc.get 1 rfl).bor1 (.cons (.same _ (by first | exact islE_im _ _ | exact Enc.val_im _ _ | exact Im.flat _ rfl | (repeat' (first | exact Im.nilL | refine Im.consL ?_ ?_ | exact Im.flat _ rfl | exact islE_im _ _ | exact Enc.val_im _ _ | refine Im.aggL ?_ | refine Im.tupleL ?_ | refine Im.isl ?_)))) (.nil))) rfl ?_
  repeat' (first | (refine AWp.mixed (id := 13) [(0, 0), (1, 0), (2, 1), (3, 1), (4, 0)] (by kernel_rfl) (by kernel_rfl) ?_) | (refine KV.run _ ?_) | (refine KQ.run _ ?_) | (refine KT.run _ ?_) | (refine AWp.seqH fun KC => ?_) | (refine AWp.block ?_) | (refine AWp.region ?_) | (refine mops_step0 rfl rfl fun KC => ?_) | (refine mops_step1 rfl fun KC => ?_) | (refine mops_step2 rfl fun KC => ?_) | (refine AWp.ret ?_) | (refine AWp.skip ?_) | (refine AWp.exit ?_) | (refine aops_callH rfl fun kC => ?_) | (refine qops_callH rfl fun kC => ?_) | (refine AWp.condB ?_) | (simp only [bse, wk, tys, storeH_ptr, Nat.reduceEqDiff, ↓reduceIte, reduceCtorEq, Nat.reduceAdd, Nat.reduceLeDiff, Int.reduceBEq, Int.reduceLT, Int.reduceLE, Int.reduceEq, ne_eq, not_false_eq_true, Nat.reduceMul, quorumE_val, quorumE_sz, clusterResultE_val, clusterResultE_sz, clusterE_val, clusterE_sz, nodeE_val, nodeE_sz, voterE_val, voterE_sz, choiceE_val, choiceE_sz, refE_val, refE_sz, voteE_val, voteE_sz, *]) | (refine condK_bool (fun hb => ?_) (fun hb => ?_) <;> ((try simp only [Bool.not_eq_true', Bool.not_eq_false'] at hb) <;> (try (have hbe := of_decide_eq_true hb)) <;> (try (have hbe := eq_of_beq hb)))) | (refine aops_partB ?_) | (refine qops_partB ?_))
  refine ACalls.get (mk_Quorum q n_q _ _ _ (1) (hc.get 0 rfl) (hc.getNd 0 rfl) (by omega) (by omega)) (by first | exact Nat.le_refl _ | exact Nat.zero_le _ | (simp only [List.length_append, List.length_cons, List.length_nil]; omega) | (simp only [List.length_set]; omega) | omega) (by first | exact Nat.le_refl _ | exact Nat.zero_le _ | (simp only [List.length_append, List.length_cons, List.length_nil]; omega) | (simp only [List.length_set]; omega) | omega) ?_
  rintro _ H7 ⟨rfl, hM0⟩
  obtain ⟨y0, _, hc⟩ := hc.mark 0 rfl hM0
  clear hM0
  simp only [List.set_cons_zero, List.set_cons_succ] at hc
  clear hb0 ha0 hb1 ha1 hb2 ha2 hb3 ha3
  have hb0 := hc.bx 0 rfl
  have hb1 := hc.bx 1 rfl
  have hb2 := hc.bx 2 rfl
  have hb3 := hc.bx 3 rfl
  try simp only [List.length_nil, Nat.zero_add, Nat.reduceAdd] at hb0 hb1 hb2 hb3
  have ha0 := fun b : Blk => get_old (L := [b]) hb0
  have ha1 := fun b : Blk => get_old (L := [b]) hb1
  have ha2 := fun b : Blk => get_old (L := [b]) hb2
  have ha3 := fun b : Blk => get_old (L := [b]) hb3
  repeat' (first | (refine AWp.mixed (id := 13) [(0, 0), (1, 0), (2, 1), (3, 1), (4, 0)] (by kernel_rfl) (by kernel_rfl) ?_) | (refine KV.run _ ?_) | (refine KQ.run _ ?_) | (refine KT.run _ ?_) | (refine AWp.seqH fun KC => ?_) | (refine AWp.block ?_) | (refine AWp.region ?_) | (refine mops_step0 rfl rfl fun KC => ?_) | (refine mops_step1 rfl fun KC => ?_) | (refine mops_step2 rfl fun KC => ?_) | (refine AWp.ret ?_) | (refine AWp.skip ?_) | (refine AWp.exit ?_) | (refine aops_callH rfl fun kC => ?_) | (refine qops_callH rfl fun kC => ?_) | (refine AWp.condB ?_) | (simp only [bse, wk, tys, storeH_ptr, Nat.reduceEqDiff, ↓reduceIte, reduceCtorEq, Nat.reduceAdd, Nat.reduceLeDiff, Int.reduceBEq, Int.reduceLT, Int.reduceLE, Int.reduceEq, ne_eq, not_false_eq_true, Nat.reduceMul, quorumE_val, quorumE_sz, clusterResultE_val, clusterResultE_sz, clusterE_val, clusterE_sz, nodeE_val, nodeE_sz, voterE_val, voterE_sz, choiceE_val, choiceE_sz, refE_val, refE_sz, voteE_val, voteE_sz, *]) | (refine condK_bool (fun hb => ?_) (fun hb => ?_) <;> ((try simp only [Bool.not_eq_true', Bool.not_eq_false'] at hb) <;> (try (have hbe := of_decide_eq_true hb)) <;> (try (have hbe := eq_of_beq hb)))) | (refine aops_partB ?_) | (refine qops_partB ?_))
  refine ACalls.get (mk_Int64S bad (by omega) _ _ _ (1 + ((mQuorum q : Nat) : Int)) (hc.get 1 rfl) (hc.getNd 1 rfl) (by omega) (by omega)) (by first | exact Nat.le_refl _ | exact Nat.zero_le _ | (simp only [List.length_append, List.length_cons, List.length_nil]; omega) | (simp only [List.length_set]; omega) | omega) (by first | exact Nat.le_refl _ | exact Nat.zero_le _ | (simp only [List.length_append, List.length_cons, List.length_nil]; omega) | (simp only [List.length_set]; omega) | omega) ?_
  rintro _ H8 ⟨rfl, hM1⟩
  obtain ⟨y1, _, hc⟩ := hc.mark 1 rfl hM1
  clear hM1
  simp only [List.set_cons_zero, List.set_cons_succ] at hc
  clear hb0 ha0 hb1 ha1 hb2 ha2 hb3 ha3
  have hb0 := hc.bx 0 rfl
  have hb1 := hc.bx 1 rfl
  have hb2 := hc.bx 2 rfl
  have hb3 := hc.bx 3 rfl
  try simp only [List.length_nil, Nat.zero_add, Nat.reduceAdd] at hb0 hb1 hb2 hb3
  have ha0 := fun b : Blk => get_old (L := [b]) hb0
  have ha1 := fun b : Blk => get_old (L := [b]) hb1
  have ha2 := fun b : Blk => get_old (L := [b]) hb2
  have ha3 := fun b : Blk => get_old (L := [b]) hb3
  have hk0 : ¬ 1 + ((mQuorum q : Nat) : Int) + ((bad.length : Nat) : Int) < 0 := by omega
  repeat' (first | (refine AWp.mixed (id := 13) [(0, 0), (1, 0), (2, 1), (3, 1), (4, 0)] (by kernel_rfl) (by kernel_rfl) ?_) | (refine KV.run _ ?_) | (refine KQ.run _ ?_) | (refine KT.run _ ?_) | (refine AWp.seqH fun KC => ?_) | (refine AWp.block ?_) | (refine AWp.region ?_) | (refine mops_step0 rfl rfl fun KC => ?_) | (refine mops_step1 rfl fun KC => ?_) | (refine mops_step2 rfl fun KC => ?_) | (refine AWp.ret ?_) | (refine AWp.skip ?_) | (refine AWp.exit ?_) | (refine aops_callH rfl fun kC => ?_) | (refine qops_callH rfl fun kC => ?_) | (refine AWp.condB ?_) | (simp only [bse, wk, tys, storeH_ptr, Nat.reduceEqDiff, ↓reduceIte, reduceCtorEq, Nat.reduceAdd, Nat.reduceLeDiff, Int.reduceBEq, Int.reduceLT, Int.reduceLE, Int.reduceEq, ne_eq, not_false_eq_true, Nat.reduceMul, quorumE_val, quorumE_sz, clusterResultE_val, clusterResultE_sz, clusterE_val, clusterE_sz, nodeE_val, nodeE_sz, voterE_val, voterE_sz, choiceE_val, choiceE_sz, refE_val, refE_sz, voteE_val, voteE_sz, *]) | (refine condK_bool (fun hb => ?_) (fun hb => ?_) <;> ((try simp only [Bool.not_eq_true', Bool.not_eq_false'] at hb) <;> (try (have hbe := of_decide_eq_true hb)) <;> (try (have hbe := eq_of_beq hb)))) | (refine aops_partB ?_) | (refine qops_partB ?_))
  refine ACalls.ofP (heq) (.cons (hc.get 2 rfl).bor1 (.cons (.same _ (by first | exact islE_im _ _ | exact Enc.val_im _ _ | exact Im.flat _ rfl | (repeat' (first | exact Im.nilL | refine Im.consL ?_ ?_ | exact Im.flat _ rfl | exact islE_im _ _ | exact Enc.val_im _ _ | refine Im.aggL ?_ | refine Im.tupleL ?_ | refine Im.isl ?_)))) (.nil))) rfl ?_
  repeat' (first | (refine AWp.mixed (id := 13) [(0, 0), (1, 0), (2, 1), (3, 1), (4, 0)] (by kernel_rfl) (by kernel_rfl) ?_) | (refine KV.run _ ?_) | (refine KQ.run _ ?_) | (refine KT.run _ ?_) | (refine AWp.seqH fun KC => ?_) | (refine AWp.block ?_) | (refine AWp.region ?_) | (refine mops_step0 rfl rfl fun KC => ?_) | (refine mops_step1 rfl fun KC => ?_) | (refine mops_step2 rfl fun KC => ?_) | (refine AWp.ret ?_) | (refine AWp.skip ?_) | (refine AWp.exit ?_) | (refine aops_callH rfl fun kC => ?_) | (refine qops_callH rfl fun kC => ?_) | (refine AWp.condB ?_) | (simp only [bse, wk, tys, storeH_ptr, Nat.reduceEqDiff, ↓reduceIte, reduceCtorEq, Nat.reduceAdd, Nat.reduceLeDiff, Int.reduceBEq, Int.reduceLT, Int.reduceLE, Int.reduceEq, ne_eq, not_false_eq_true, Nat.reduceMul, quorumE_val, quorumE_sz, clusterResultE_val, clusterResultE_sz, clusterE_val, clusterE_sz, nodeE_val, nodeE_sz, voterE_val, voterE_sz, choiceE_val, choiceE_sz, refE_val, refE_sz, voteE_val, voteE_sz, *]) | (refine condK_bool (fun hb => ?_) (fun hb => ?_) <;> ((try simp only [Bool.not_eq_true', Bool.not_eq_false'] at hb) <;> (try (have hbe := of_decide_eq_true hb)) <;> (try (have hbe := eq_of_beq hb)))) | (refine aops_partB ?_) | (refine qops_partB ?_))
  refine ACalls.get (mk_ClusterResult w hR hPl _ _ _ 1 (hc.get 2 rfl) (hc.getNd 2 rfl) (by omega) (by omega)) (by first | exact Nat.le_refl _ | exact Nat.zero_le _ | (simp only [List.length_append, List.length_cons, List.length_nil]; omega) | (simp only [List.length_set]; omega) | omega) (by first | exact Nat.le_refl _ | exact Nat.zero_le _ | (simp only [List.length_append, List.length_cons, List.length_nil]; omega) | (simp only [List.length_set]; omega) | omega) ?_
  rintro _ H9 ⟨rfl, hMg⟩
  obtain ⟨yg, hyg, hc⟩ := hc.mark 2 rfl hMg
  clear hMg
  simp only [List.set_cons_zero, List.set_cons_succ] at hc
  clear hb0 ha0 hb1 ha1 hb2 ha2 hb3 ha3
  have hb0 := hc.bx 0 rfl
  have hb1 := hc.bx 1 rfl
  have hb2 := hc.bx 2 rfl
  have hb3 := hc.bx 3 rfl
  try simp only [List.length_nil, Nat.zero_add, Nat.reduceAdd] at hb0 hb1 hb2 hb3
  have ha0 := fun b : Blk => get_old (L := [b]) hb0
  have ha1 := fun b : Blk => get_old (L := [b]) hb1
  have ha2 := fun b : Blk => get_old (L := [b]) hb2
  have ha3 := fun b : Blk => get_old (L := [b]) hb3
  repeat' (first | (refine AWp.mixed (id := 13) [(0, 0), (1, 0), (2, 1), (3, 1), (4, 0)] (by kernel_rfl) (by kernel_rfl) ?_) | (refine KV.run _ ?_) | (refine KQ.run _ ?_) | (refine KT.run _ ?_) | (refine AWp.seqH fun KC => ?_) | (refine AWp.block ?_) | (refine AWp.region ?_) | (refine mops_step0 rfl rfl fun KC => ?_) | (refine mops_step1 rfl fun KC => ?_) | (refine mops_step2 rfl fun KC => ?_) | (refine AWp.ret ?_) | (refine AWp.skip ?_) | (refine AWp.exit ?_) | (refine aops_callH rfl fun kC => ?_) | (refine qops_callH rfl fun kC => ?_) | (refine AWp.condB ?_) | (simp only [bse, wk, tys, storeH_ptr, Nat.reduceEqDiff, ↓reduceIte, reduceCtorEq, Nat.reduceAdd, Nat.reduceLeDiff, Int.reduceBEq, Int.reduceLT, Int.reduceLE, Int.reduceEq, ne_eq, not_false_eq_true, Nat.reduceMul, quorumE_val, quorumE_sz, clusterResultE_val, clusterResultE_sz, clusterE_val, clusterE_sz, nodeE_val, nodeE_sz, voterE_val, voterE_sz, choiceE_val, choiceE_sz, refE_val, refE_sz, voteE_val, voteE_sz, *]) | (refine condK_bool (fun hb => ?_) (fun hb => ?_) <;> ((try simp only [Bool.not_eq_true', Bool.not_eq_false'] at hb) <;> (try (have hbe := of_decide_eq_true hb)) <;> (try (have hbe := eq_of_beq hb)))) | (refine aops_partB ?_) | (refine qops_partB ?_))
  refine ACalls.ofP (hyg) ((hc.get 2 rfl).bork) rfl ?_
  repeat' (first | (refine AWp.mixed (id := 13) [(0, 0), (1, 0), (2, 1), (3, 1), (4, 0)] (by kernel_rfl) (by kernel_rfl) ?_) | (refine ACalls.start ?_; first | (refine ACalls.ofJi (laws_toQuorum q n_q) rfl ?_) | (refine ACalls.ofJi (laws_toInt64S bad (by omega)) rfl ?_)) | (refine qcall_start ?_; first | (refine qcallFi (laws_toQuorum q n_q) rfl ?_ ?_; (focus ((first | exact rfl | (simp [pureV, flatV, quorumE_val, quorumE_sz, clusterResultE_val, clusterResultE_sz, clusterE_val, clusterE_sz, nodeE_val, nodeE_sz, voterE_val, voterE_sz, choiceE_val, choiceE_sz, refE_val, refE_sz, voteE_val, voteE_sz]; done))))) | (refine qcallFi (laws_toInt64S bad (by omega)) rfl ?_ ?_; (focus ((first | exact rfl | (simp [pureV, flatV, quorumE_val, quorumE_sz, clusterResultE_val, clusterResultE_sz, clusterE_val, clusterE_sz, nodeE_val, nodeE_sz, voterE_val, voterE_sz, choiceE_val, choiceE_sz, refE_val, refE_sz, voteE_val, voteE_sz]; done)))))) | (refine KV.run _ ?_) | (refine KQ.run _ ?_) | (refine KT.run _ ?_) | (refine AWp.seqH fun KC => ?_) | (refine AWp.block ?_) | (refine AWp.region ?_) | (refine mops_step0 rfl rfl fun KC => ?_) | (refine mops_step1 rfl fun KC => ?_) | (refine mops_step2 rfl fun KC => ?_) | (refine AWp.ret ?_) | (refine AWp.skip ?_) | (refine AWp.exit ?_) | (refine aops_callH rfl fun kC => ?_) | (refine qops_callH rfl fun kC => ?_) | (refine AWp.condB ?_) | (simp only [bse, wk, tys, storeH_ptr, Nat.reduceEqDiff, ↓reduceIte, reduceCtorEq, Nat.reduceAdd, Nat.reduceLeDiff, Int.reduceBEq, Int.reduceLT, Int.reduceLE, Int.reduceEq, ne_eq, not_false_eq_true, Nat.reduceMul, quorumE_val, quorumE_sz, clusterResultE_val, clusterResultE_sz, clusterE_val, clusterE_sz, nodeE_val, nodeE_sz, voterE_val, voterE_sz, choiceE_val, choiceE_sz, refE_val, refE_sz, voteE_val, voteE_sz, *]) | (refine condK_bool (fun hb => ?_) (fun hb => ?_) <;> ((try simp only [Bool.not_eq_true', Bool.not_eq_false'] at hb) <;> (try (have hbe := of_decide_eq_true hb)) <;> (try (have hbe := eq_of_beq hb)))) | (refine aops_partB ?_) | (refine qops_partB ?_))
  refine ACalls.ofJ himp2 rfl ?_ ?_ ?_
  · (repeat' (first | exact Im.nilL | refine Im.consL ?_ ?_ | refine Im.appL ?_ ?_ | exact Im.flat _ rfl | exact islE_im _ _ | exact Enc.val_im _ _ | assumption | refine Im.aggL ?_ | refine Im.tupleL ?_ | refine Im.funcL ?_ | refine Im.funcA ?_ | refine Im.isl ?_ | refine Im.ip ?_)); done
  · (repeat' (first | exact Im.nilL | refine Im.consL ?_ ?_ | refine Im.appL ?_ ?_ | exact Im.flat _ rfl | exact islE_im _ _ | exact Enc.val_im _ _ | assumption | refine Im.aggL ?_ | refine Im.tupleL ?_ | refine Im.funcL ?_ | refine Im.funcA ?_ | refine Im.isl ?_ | refine Im.ip ?_)); done
  repeat' (first | (refine AWp.mixed (id := 13) [(0, 0), (1, 0), (2, 1), (3, 1), (4, 0)] (by kernel_rfl) (by kernel_rfl) ?_) | (refine KV.run _ ?_) | (refine KQ.run _ ?_) | (refine KT.run _ ?_) | (refine AWp.seqH fun KC => ?_) | (refine AWp.block ?_) | (refine AWp.region ?_) | (refine mops_step0 rfl rfl fun KC => ?_) | (refine mops_step1 rfl fun KC => ?_) | (refine mops_step2 rfl fun KC => ?_) | (refine AWp.ret ?_) | (refine AWp.skip ?_) | (refine AWp.exit ?_) | (refine aops_callH rfl fun kC => ?_) | (refine qops_callH rfl fun kC => ?_) | (refine AWp.condB ?_) | (simp only [bse, wk, tys, storeH_ptr, Nat.reduceEqDiff, ↓reduceIte, reduceCtorEq, Nat.reduceAdd, Nat.reduceLeDiff, Int.reduceBEq, Int.reduceLT, Int.reduceLE, Int.reduceEq, ne_eq, not_false_eq_true, Nat.reduceMul, quorumE_val, quorumE_sz, clusterResultE_val, clusterResultE_sz, clusterE_val, clusterE_sz, nodeE_val, nodeE_sz, voterE_val, voterE_sz, choiceE_val, choiceE_sz, refE_val, refE_sz, voteE_val, voteE_sz, *]) | (refine condK_bool (fun hb => ?_) (fun hb => ?_) <;> ((try simp only [Bool.not_eq_true', Bool.not_eq_false'] at hb) <;> (try (have hbe := of_decide_eq_true hb)) <;> (try (have hbe := eq_of_beq hb)))) | (refine aops_partB ?_) | (refine qops_partB ?_))
  refine ACalls.absb hc ?_
  intro H10 hc
  clear hb0 ha0 hb1 ha1 hb2 ha2 hb3 ha3
  have hb0 := hc.bx 0 rfl
  have hb1 := hc.bx 1 rfl
  have hb2 := hc.bx 2 rfl
  have hb3 := hc.bx 3 rfl
  have hb4 := hc.bx 4 rfl
  try simp only [List.length_nil, Nat.zero_add, Nat.reduceAdd] at hb0 hb1 hb2 hb3 hb4
  have ha0 := fun b : Blk => get_old (L := [b]) hb0
  have ha1 := fun b : Blk => get_old (L := [b]) hb1
  have ha2 := fun b : Blk => get_old (L := [b]) hb2
  have ha3 := fun b : Blk => get_old (L := [b]) hb3
  have ha4 := fun b : Blk => get_old (L := [b]) hb4
  refine ACalls.ofP (heq) (.cons (.same _ (by first | exact islE_im _ _ | exact Enc.val_im _ _ | exact Im.flat _ rfl | (repeat' (first | exact Im.nilL | refine Im.consL ?_ ?_ | exact Im.flat _ rfl | exact islE_im _ _ | exact Enc.val_im _ _ | refine Im.aggL ?_ | refine Im.tupleL ?_ | refine Im.isl ?_)))) (.cons (.same _ (by first | exact islE_im _ _ | exact Enc.val_im _ _ | exact Im.flat _ rfl | (repeat' (first | exact Im.nilL | refine Im.consL ?_ ?_ | exact Im.flat _ rfl | exact islE_im _ _ | exact Enc.val_im _ _ | refine Im.aggL ?_ | refine Im.tupleL ?_ | refine Im.isl ?_)))) (.nil))) rfl ?_
  repeat' (first | (refine AWp.mixed (id := 13) [(0, 0), (1, 0), (2, 1), (3, 1), (4, 0)] (by kernel_rfl) (by kernel_rfl) ?_) | (refine KV.run _ ?_) | (refine KQ.run _ ?_) | (refine KT.run _ ?_) | (refine AWp.seqH fun KC => ?_) | (refine AWp.block ?_) | (refine AWp.region ?_) | (refine mops_step0 rfl rfl fun KC => ?_) | (refine mops_step1 rfl fun KC => ?_) | (refine mops_step2 rfl fun KC => ?_) | (refine AWp.ret ?_) | (refine AWp.skip ?_) | (refine AWp.exit ?_) | (refine aops_callH rfl fun kC => ?_) | (refine qops_callH rfl fun kC => ?_) | (refine AWp.condB ?_) | (simp only [bse, wk, tys, storeH_ptr, Nat.reduceEqDiff, ↓reduceIte, reduceCtorEq, Nat.reduceAdd, Nat.reduceLeDiff, Int.reduceBEq, Int.reduceLT, Int.reduceLE, Int.reduceEq, ne_eq, not_false_eq_true, Nat.reduceMul, quorumE_val, quorumE_sz, clusterResultE_val, clusterResultE_sz, clusterE_val, clusterE_sz, nodeE_val, nodeE_sz, voterE_val, voterE_sz, choiceE_val, choiceE_sz, refE_val, refE_sz, voteE_val, voteE_sz, *]) | (refine condK_bool (fun hb => ?_) (fun hb => ?_) <;> ((try simp only [Bool.not_eq_true', Bool.not_eq_false'] at hb) <;> (try (have hbe := of_decide_eq_true hb)) <;> (try (have hbe := eq_of_beq hb)))) | (refine aops_partB ?_) | (refine qops_partB ?_))
  refine ACalls.ofP (hyg) ((hc.get 2 rfl).bork) rfl ?_
  repeat' (first | (refine AWp.mixed (id := 13) [(0, 0), (1, 0), (2, 1), (3, 1), (4, 0)] (by kernel_rfl) (by kernel_rfl) ?_) | (refine KV.run _ ?_) | (refine KQ.run _ ?_) | (refine KT.run _ ?_) | (refine AWp.seqH fun KC => ?_) | (refine AWp.block ?_) | (refine AWp.region ?_) | (refine mops_step0 rfl rfl fun KC => ?_) | (refine mops_step1 rfl fun KC => ?_) | (refine mops_step2 rfl fun KC => ?_) | (refine AWp.ret ?_) | (refine AWp.skip ?_) | (refine AWp.exit ?_) | (refine aops_callH rfl fun kC => ?_) | (refine qops_callH rfl fun kC => ?_) | (refine AWp.condB ?_) | (simp only [bse, wk, tys, storeH_ptr, Nat.reduceEqDiff, ↓reduceIte, reduceCtorEq, Nat.reduceAdd, Nat.reduceLeDiff, Int.reduceBEq, Int.reduceLT, Int.reduceLE, Int.reduceEq, ne_eq, not_false_eq_true, Nat.reduceMul, quorumE_val, quorumE_sz, clusterResultE_val, clusterResultE_sz, clusterE_val, clusterE_sz, nodeE_val, nodeE_sz, voterE_val, voterE_sz, choiceE_val, choiceE_sz, refE_val, refE_sz, voteE_val, voteE_sz, *]) | (refine condK_bool (fun hb => ?_) (fun hb => ?_) <;> ((try simp only [Bool.not_eq_true', Bool.not_eq_false'] at hb) <;> (try (have hbe := of_decide_eq_true hb)) <;> (try (have hbe := eq_of_beq hb)))) | (refine aops_partB ?_) | (refine qops_partB ?_))
end Go.BM
