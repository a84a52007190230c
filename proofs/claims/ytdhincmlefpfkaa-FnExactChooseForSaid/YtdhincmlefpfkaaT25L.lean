/- FnExactChooseFor over data. -/
import Derived.Test.YtdhincmlefpfkaaT25
import Derived.Test.YtdhincmlefpfkaaC30
set_option linter.unusedVariables false
set_option linter.unusedSimpArgs false
set_option maxRecDepth 100000
set_option maxHeartbeats 4000000
namespace Go.BM
open Go.Proofs Go.RowKit
attribute [local irreducible] ACalls AWp aops qops optK optP cK gateA condK mops qcallK PCalls loadV fldV idxV lenV slV storeH binS
theorem law_ChooseFor (v : TVoter) (r : TRef) (tx : Int) (l_v : limVoter v) : PCalls Try.prog 14 [voterE.val v, refE.val r, .int .i64 tx] (.bool true) := by
  by_cases h_v : szI (nVoter v) (1048576) < 0
  · refine PCalls.flat rfl ?_; refine ACalls.enter (n := 82) (rs := [.tmp 6]) Try.func14 rfl rfl rfl (by kernel_rfl) (by kernel_rfl) (by kernel_rfl) (Nat.le_of_ble_eq_true rfl) ?_
    repeat' (first | (refine AWp.mixed (id := 10) [(0, 0), (1, 0), (2, 1), (3, 1), (4, 0)] (by kernel_rfl) (by kernel_rfl) ?_) | (refine AWp.mixedT (id := 5) (.cons 0 0 (.cons 2 0 (.cons 4 0 (.alt 1 1 (.alt 3 1 (.alt 5 1 (.cons 6 1 (.cons 7 2 .nil)) (.cons 6 1 (.cons 5 1 (.cons 7 2 .nil)))) (.cons 6 1 (.cons 3 1 (.cons 5 1 (.cons 7 2 .nil))))) (.cons 6 1 (.cons 1 1 (.cons 3 1 (.cons 5 1 (.cons 7 2 .nil))))))))) (by kernel_rfl) (by kernel_rfl) ?_) | (refine AWp.mixedT (id := 7) (.cons 0 0 (.cons 1 0 (.cons 3 0 (.alt 2 1 (.alt 4 1 (.cons 5 1 (.cons 6 2 .nil)) (.cons 5 1 (.cons 4 1 (.cons 6 2 .nil)))) (.cons 5 1 (.cons 2 1 (.cons 4 1 (.cons 6 2 .nil)))))))) (by kernel_rfl) (by kernel_rfl) ?_) | (refine AWp.mixedT (id := 24) (.cons 0 0 (.cons 2 0 (.cons 4 0 (.alt 1 1 (.alt 3 1 (.alt 5 1 (.cons 6 1 (.cons 7 2 .nil)) (.cons 6 1 (.cons 5 1 (.cons 7 2 .nil)))) (.cons 6 1 (.cons 3 1 (.cons 5 1 (.cons 7 2 .nil))))) (.cons 6 1 (.cons 1 1 (.cons 3 1 (.cons 5 1 (.cons 7 2 .nil))))))))) (by kernel_rfl) (by kernel_rfl) ?_) | (refine mopsT_step0 rfl rfl fun KC => ?_) | (refine mopsT_step1 rfl fun KC => ?_) | (refine mopsT_step2 rfl fun KC => ?_) | (refine mopsT_alt1 rfl (fun KC => ?_) ?_) | (refine mopsT_alt2 rfl (fun KC => ?_) ?_) | (refine ACalls.start ?_; first | (refine ACalls.ofJi (laws_szVoter v (1048576) (by omega) (by omega) l_v) rfl ?_)) | (refine qcall_start ?_; first | (refine qcallFi (laws_szVoter v (1048576) (by omega) (by omega) l_v) rfl ?_ ?_; (focus ((first | exact rfl | (simp [pureV, flatV, voterE_val, voterE_sz, choiceE_val, choiceE_sz, refE_val, refE_sz, voterResultE_val, voterResultE_sz, voteE_val, voteE_sz]; done)))))) | (refine KV.run _ ?_) | (refine KQ.run _ ?_) | (refine KT.run _ ?_) | (refine AWp.seqH fun KC => ?_) | (refine AWp.block ?_) | (refine AWp.region ?_) | (refine mops_step0 rfl rfl fun KC => ?_) | (refine mops_step1 rfl fun KC => ?_) | (refine mops_step2 rfl fun KC => ?_) | (refine AWp.ret ?_) | (refine AWp.skip ?_) | (refine AWp.exit ?_) | (refine aops_callH rfl fun kC => ?_) | (refine qops_callH rfl fun kC => ?_) | (refine AWp.condB ?_) | (simp only [bse, wk, tys, storeH_ptr, Nat.reduceEqDiff, ↓reduceIte, reduceCtorEq, Nat.reduceAdd, Nat.reduceLeDiff, Int.reduceBEq, Int.reduceLT, Int.reduceLE, Int.reduceEq, ne_eq, not_false_eq_true, Nat.reduceMul, voterE_val, voterE_sz, choiceE_val, choiceE_sz, refE_val, refE_sz, voterResultE_val, voterResultE_sz, voteE_val, voteE_sz, *]) | (refine condK_bool (fun hb => ?_) (fun hb => ?_) <;> ((try simp only [Bool.not_eq_true', Bool.not_eq_false'] at hb) <;> (try (have hbe := of_decide_eq_true hb)) <;> (try (have hbe := eq_of_beq hb)))) | (refine aops_partB ?_) | (refine qops_partB ?_))
  have n_v : nVoter v ≤ 1048576 := by unfold szI at *; (repeat' split at *) <;> omega
  have hR := nR_ChooseFor v r tx n_v
  obtain ⟨w, hw⟩ : ∃ w, w = chooseForF v r tx := ⟨_, rfl⟩
  have hspec := spec_ChooseFor v r tx n_v
  have himpl := impl_ChooseFor v r tx n_v
  rw [← hw] at hR hspec himpl
  clear hw
  have hm_v : mVoter v ≤ 100000000 := by first | omega | (simp only [mVoterResult, nVoterResult, mVoter, nVoter] at *; omega)
  have hmR : mVoterResult w ≤ 100000000 := by simp only [mVoterResult, nVoterResult, mVoter, nVoter] at hR ⊢; omega
  have hqR : ¬ (1 : Int) + ((mVoterResult w : Nat) : Int) < 0 := by omega
  have heq := laws_eqVoterResult w hR
  simp only [voterResultE_val] at heq hspec himpl
  have himp2 := himpl.p
  refine PCalls.flat rfl ?_; refine ACalls.enter (n := 82) (rs := [.tmp 6]) Try.func14 rfl rfl rfl (by kernel_rfl) (by kernel_rfl) (by kernel_rfl) (Nat.le_of_ble_eq_true rfl) ?_
  repeat' (first | (refine ACalls.start ?_; first | (refine ACalls.ofJi (laws_szVoter v (1048576) (by omega) (by omega) l_v) rfl ?_)) | (refine qcall_start ?_; first | (refine qcallFi (laws_szVoter v (1048576) (by omega) (by omega) l_v) rfl ?_ ?_; (focus ((first | exact rfl | (simp [pureV, flatV, voterE_val, voterE_sz, choiceE_val, choiceE_sz, refE_val, refE_sz, voterResultE_val, voterResultE_sz, voteE_val, voteE_sz]; done)))))) | (refine KV.run _ ?_) | (refine KQ.run _ ?_) | (refine KT.run _ ?_) | (refine AWp.seqH fun KC => ?_) | (refine AWp.block ?_) | (refine AWp.region ?_) | (refine mops_step0 rfl rfl fun KC => ?_) | (refine mops_step1 rfl fun KC => ?_) | (refine mops_step2 rfl fun KC => ?_) | (refine AWp.ret ?_) | (refine AWp.skip ?_) | (refine AWp.exit ?_) | (refine aops_callH rfl fun kC => ?_) | (refine qops_callH rfl fun kC => ?_) | (refine AWp.condB ?_) | (simp only [bse, wk, tys, storeH_ptr, Nat.reduceEqDiff, ↓reduceIte, reduceCtorEq, Nat.reduceAdd, Nat.reduceLeDiff, Int.reduceBEq, Int.reduceLT, Int.reduceLE, Int.reduceEq, ne_eq, not_false_eq_true, Nat.reduceMul, voterE_val, voterE_sz, choiceE_val, choiceE_sz, refE_val, refE_sz, voterResultE_val, voterResultE_sz, voteE_val, voteE_sz, *]) | (refine condK_bool (fun hb => ?_) (fun hb => ?_) <;> ((try simp only [Bool.not_eq_true', Bool.not_eq_false'] at hb) <;> (try (have hbe := of_decide_eq_true hb)) <;> (try (have hbe := eq_of_beq hb)))) | (refine aops_partB ?_) | (refine qops_partB ?_))
  refine AWp.mixedT (id := 5) (.cons 0 0 (.cons 2 0 (.cons 4 0 (.alt 1 1 (.alt 3 1 (.alt 5 1 (.cons 6 1 (.cons 7 2 .nil)) (.cons 6 1 (.cons 5 1 (.cons 7 2 .nil)))) (.cons 6 1 (.cons 3 1 (.cons 5 1 (.cons 7 2 .nil))))) (.cons 6 1 (.cons 1 1 (.cons 3 1 (.cons 5 1 (.cons 7 2 .nil))))))))) (by kernel_rfl) (by kernel_rfl) ?_
  refine mopsT_abs fun e0 he0 => ?_
  have r2 := congrFun he0 2
  have r3 := congrFun he0 3
  have r4 := congrFun he0 4
  try simp only [bse, wk, tys, storeH_ptr, Nat.reduceEqDiff, ↓reduceIte, reduceCtorEq, Nat.reduceAdd, Nat.reduceLeDiff, Int.reduceBEq, Int.reduceLT, Int.reduceLE, Int.reduceEq, ne_eq, not_false_eq_true, Nat.reduceMul, voterE_val, voterE_sz, choiceE_val, choiceE_sz, refE_val, refE_sz, voterResultE_val, voterResultE_sz, voteE_val, voteE_sz] at r2 r3 r4
  have he1 : Hid _ := he0
  clear he0
  apply mopsT_cut
  case h1 =>
    repeat' (first | (refine mopsT_step0 rfl rfl fun KC => ?_) | (refine mopsT_step1 rfl fun KC => ?_) | (refine mopsT_step2 rfl fun KC => ?_) | (refine mopsT_alt1 rfl (fun KC => ?_) ?_) | (refine mopsT_alt2 rfl (fun KC => ?_) ?_) | (refine ACalls.start ?_; first | (refine ACalls.ofJi (laws_toVoter v n_v) rfl ?_) | (refine ACalls.ofJi (laws_toRef r) rfl ?_) | (refine ACalls.ofJi (hspec) rfl ?_)) | (refine qcall_start ?_; first | (refine qcallFi (laws_toVoter v n_v) rfl ?_ ?_; (focus ((first | exact rfl | (simp [pureV, flatV, voterE_val, voterE_sz, choiceE_val, choiceE_sz, refE_val, refE_sz, voterResultE_val, voterResultE_sz, voteE_val, voteE_sz]; done))))) | (refine qcallFi (laws_toRef r) rfl ?_ ?_; (focus ((first | exact rfl | (simp [pureV, flatV, voterE_val, voterE_sz, choiceE_val, choiceE_sz, refE_val, refE_sz, voterResultE_val, voterResultE_sz, voteE_val, voteE_sz]; done))))) | (refine qcallFi (hspec) rfl ?_ ?_; (focus ((first | exact rfl | (simp [pureV, flatV, voterE_val, voterE_sz, choiceE_val, choiceE_sz, refE_val, refE_sz, voterResultE_val, voterResultE_sz, voteE_val, voteE_sz]; done)))))) | (refine KV.run _ ?_) | (refine KQ.run _ ?_) | (refine KT.run _ ?_) | (refine AWp.seqH fun KC => ?_) | (refine AWp.block ?_) | (refine AWp.region ?_) | (refine mops_step0 rfl rfl fun KC => ?_) | (refine mops_step1 rfl fun KC => ?_) | (refine mops_step2 rfl fun KC => ?_) | (refine AWp.ret ?_) | (refine AWp.skip ?_) | (refine AWp.exit ?_) | (refine aops_callH rfl fun kC => ?_) | (refine qops_callH rfl fun kC => ?_) | (refine AWp.condB ?_) | (simp only [bse, wk, tys, storeH_ptr, Nat.reduceEqDiff, ↓reduceIte, reduceCtorEq, Nat.reduceAdd, Nat.reduceLeDiff, Int.reduceBEq, Int.reduceLT, Int.reduceLE, Int.reduceEq, ne_eq, not_false_eq_true, Nat.reduceMul, voterE_val, voterE_sz, choiceE_val, choiceE_sz, refE_val, refE_sz, voterResultE_val, voterResultE_sz, voteE_val, voteE_sz, *]) | (refine condK_bool (fun hb => ?_) (fun hb => ?_) <;> ((try simp only [Bool.not_eq_true', Bool.not_eq_false'] at hb) <;> (try (have hbe := of_decide_eq_true hb)) <;> (try (have hbe := eq_of_beq hb)))) | (refine aops_partB ?_) | (refine qops_partB ?_))
    all_goals (first | exact ⟨rfl, rfl⟩ | (refine AtEH.mk (funext fun q => env_pt 8 q rfl fun hq8 => ?_) rfl; simp only [put, hq8, if_false]))
  have he2 := he1.out
  clear he1
  subst he2
  clear hspec
  repeat' (first | (refine AWp.mixed (id := 10) [(0, 0), (1, 0), (2, 1), (3, 1), (4, 0)] (by kernel_rfl) (by kernel_rfl) ?_) | (refine AWp.mixedT (id := 5) (.cons 0 0 (.cons 2 0 (.cons 4 0 (.alt 1 1 (.alt 3 1 (.alt 5 1 (.cons 6 1 (.cons 7 2 .nil)) (.cons 6 1 (.cons 5 1 (.cons 7 2 .nil)))) (.cons 6 1 (.cons 3 1 (.cons 5 1 (.cons 7 2 .nil))))) (.cons 6 1 (.cons 1 1 (.cons 3 1 (.cons 5 1 (.cons 7 2 .nil))))))))) (by kernel_rfl) (by kernel_rfl) ?_) | (refine AWp.mixedT (id := 7) (.cons 0 0 (.cons 1 0 (.cons 3 0 (.alt 2 1 (.alt 4 1 (.cons 5 1 (.cons 6 2 .nil)) (.cons 5 1 (.cons 4 1 (.cons 6 2 .nil)))) (.cons 5 1 (.cons 2 1 (.cons 4 1 (.cons 6 2 .nil)))))))) (by kernel_rfl) (by kernel_rfl) ?_) | (refine AWp.mixedT (id := 24) (.cons 0 0 (.cons 2 0 (.cons 4 0 (.alt 1 1 (.alt 3 1 (.alt 5 1 (.cons 6 1 (.cons 7 2 .nil)) (.cons 6 1 (.cons 5 1 (.cons 7 2 .nil)))) (.cons 6 1 (.cons 3 1 (.cons 5 1 (.cons 7 2 .nil))))) (.cons 6 1 (.cons 1 1 (.cons 3 1 (.cons 5 1 (.cons 7 2 .nil))))))))) (by kernel_rfl) (by kernel_rfl) ?_) | (refine mopsT_step0 rfl rfl fun KC => ?_) | (refine mopsT_step1 rfl fun KC => ?_) | (refine mopsT_step2 rfl fun KC => ?_) | (refine mopsT_alt1 rfl (fun KC => ?_) ?_) | (refine mopsT_alt2 rfl (fun KC => ?_) ?_) | (refine KV.run _ ?_) | (refine KQ.run _ ?_) | (refine KT.run _ ?_) | (refine AWp.seqH fun KC => ?_) | (refine AWp.block ?_) | (refine AWp.region ?_) | (refine mops_step0 rfl rfl fun KC => ?_) | (refine mops_step1 rfl fun KC => ?_) | (refine mops_step2 rfl fun KC => ?_) | (refine AWp.ret ?_) | (refine AWp.skip ?_) | (refine AWp.exit ?_) | (refine aops_callH rfl fun kC => ?_) | (refine qops_callH rfl fun kC => ?_) | (refine AWp.condB ?_) | (simp only [bse, wk, tys, storeH_ptr, Nat.reduceEqDiff, ↓reduceIte, reduceCtorEq, Nat.reduceAdd, Nat.reduceLeDiff, Int.reduceBEq, Int.reduceLT, Int.reduceLE, Int.reduceEq, ne_eq, not_false_eq_true, Nat.reduceMul, voterE_val, voterE_sz, choiceE_val, choiceE_sz, refE_val, refE_sz, voterResultE_val, voterResultE_sz, voteE_val, voteE_sz, *]) | (refine condK_bool (fun hb => ?_) (fun hb => ?_) <;> ((try simp only [Bool.not_eq_true', Bool.not_eq_false'] at hb) <;> (try (have hbe := of_decide_eq_true hb)) <;> (try (have hbe := eq_of_beq hb)))) | (refine aops_partB ?_) | (refine qops_partB ?_))
  refine ACalls.absL ?_
  intro H1 hc
  have hb0 := hc.bx 0 rfl
  have hb1 := hc.bx 1 rfl
  have hb2 := hc.bx 2 rfl
  try simp only [List.length_nil, Nat.zero_add, Nat.reduceAdd] at hb0 hb1 hb2
  have ha0 := fun b : Blk => get_old (L := [b]) hb0
  have ha1 := fun b : Blk => get_old (L := [b]) hb1
  have ha2 := fun b : Blk => get_old (L := [b]) hb2
  repeat' (first | (refine AWp.mixed (id := 10) [(0, 0), (1, 0), (2, 1), (3, 1), (4, 0)] (by kernel_rfl) (by kernel_rfl) ?_) | (refine AWp.mixedT (id := 5) (.cons 0 0 (.cons 2 0 (.cons 4 0 (.alt 1 1 (.alt 3 1 (.alt 5 1 (.cons 6 1 (.cons 7 2 .nil)) (.cons 6 1 (.cons 5 1 (.cons 7 2 .nil)))) (.cons 6 1 (.cons 3 1 (.cons 5 1 (.cons 7 2 .nil))))) (.cons 6 1 (.cons 1 1 (.cons 3 1 (.cons 5 1 (.cons 7 2 .nil))))))))) (by kernel_rfl) (by kernel_rfl) ?_) | (refine AWp.mixedT (id := 7) (.cons 0 0 (.cons 1 0 (.cons 3 0 (.alt 2 1 (.alt 4 1 (.cons 5 1 (.cons 6 2 .nil)) (.cons 5 1 (.cons 4 1 (.cons 6 2 .nil)))) (.cons 5 1 (.cons 2 1 (.cons 4 1 (.cons 6 2 .nil)))))))) (by kernel_rfl) (by kernel_rfl) ?_) | (refine AWp.mixedT (id := 24) (.cons 0 0 (.cons 2 0 (.cons 4 0 (.alt 1 1 (.alt 3 1 (.alt 5 1 (.cons 6 1 (.cons 7 2 .nil)) (.cons 6 1 (.cons 5 1 (.cons 7 2 .nil)))) (.cons 6 1 (.cons 3 1 (.cons 5 1 (.cons 7 2 .nil))))) (.cons 6 1 (.cons 1 1 (.cons 3 1 (.cons 5 1 (.cons 7 2 .nil))))))))) (by kernel_rfl) (by kernel_rfl) ?_) | (refine mopsT_step0 rfl rfl fun KC => ?_) | (refine mopsT_step1 rfl fun KC => ?_) | (refine mopsT_step2 rfl fun KC => ?_) | (refine mopsT_alt1 rfl (fun KC => ?_) ?_) | (refine mopsT_alt2 rfl (fun KC => ?_) ?_) | (refine KV.run _ ?_) | (refine KQ.run _ ?_) | (refine KT.run _ ?_) | (refine AWp.seqH fun KC => ?_) | (refine AWp.block ?_) | (refine AWp.region ?_) | (refine mops_step0 rfl rfl fun KC => ?_) | (refine mops_step1 rfl fun KC => ?_) | (refine mops_step2 rfl fun KC => ?_) | (refine AWp.ret ?_) | (refine AWp.skip ?_) | (refine AWp.exit ?_) | (refine aops_callH rfl fun kC => ?_) | (refine qops_callH rfl fun kC => ?_) | (refine AWp.condB ?_) | (simp only [bse, wk, tys, storeH_ptr, Nat.reduceEqDiff, ↓reduceIte, reduceCtorEq, Nat.reduceAdd, Nat.reduceLeDiff, Int.reduceBEq, Int.reduceLT, Int.reduceLE, Int.reduceEq, ne_eq, not_false_eq_true, Nat.reduceMul, voterE_val, voterE_sz, choiceE_val, choiceE_sz, refE_val, refE_sz, voterResultE_val, voterResultE_sz, voteE_val, voteE_sz, *]) | (refine condK_bool (fun hb => ?_) (fun hb => ?_) <;> ((try simp only [Bool.not_eq_true', Bool.not_eq_false'] at hb) <;> (try (have hbe := of_decide_eq_true hb)) <;> (try (have hbe := eq_of_beq hb)))) | (refine aops_partB ?_) | (refine qops_partB ?_))
  refine ACalls.get (NCalls.use (own_toVoter v n_v) (BorL.same (by repeat' (first | exact Im.nilL | refine Im.consL ?_ ?_ | refine Im.appL ?_ ?_ | exact Im.flat _ rfl | exact islE_im _ _ | exact Enc.val_im _ _ | assumption | refine Im.aggL ?_ | refine Im.funcL ?_ | refine Im.funcA ?_ | refine Im.isl ?_ | refine Im.ip ?_)))) (by first | exact Nat.le_refl _ | exact Nat.zero_le _ | (simp only [List.length_append, List.length_cons, List.length_nil]; omega) | (simp only [List.length_set]; omega) | omega) (by first | exact Nat.le_refl _ | exact Nat.zero_le _ | (simp only [List.length_append, List.length_cons, List.length_nil]; omega) | (simp only [List.length_set]; omega) | omega) ?_
  rintro d0 H2 ⟨S0, hN0⟩
  have px0 := hN0.own
  rw [voterE_val] at px0
  obtain ⟨xsx0, rfl, ox0⟩ := OwnL.aggI px0
  clear px0
  obtain ⟨m_x0_0, rfl, ox0_n1⟩ := OwnL.flatI ox0 rfl
  obtain ⟨m_x0_1, rfl, ox0_n2⟩ := OwnL.flatI ox0_n1 rfl
  obtain ⟨d_x0_2, m_x0_2, S_x0_2, R_x0_2, rfl, rfl, p_x0_2, ox0_n3⟩ := OwnL.consI ox0_n2
  obtain ⟨a_x0_2, n_x0_2, v_x0_2, rfl⟩ := OwnL.slD p_x0_2
  obtain ⟨rfl, rfl⟩ := OwnL.nilI ox0_n3
  clear ox0_n1 ox0_n2 ox0_n3
  have hc := hc.new hN0
  clear hN0
  simp only [List.nil_append, List.cons_append] at hc
  clear hb0 ha0 hb1 ha1 hb2 ha2
  have hb0 := hc.bx 0 rfl
  have hb1 := hc.bx 1 rfl
  have hb2 := hc.bx 2 rfl
  try simp only [List.length_nil, Nat.zero_add, Nat.reduceAdd] at hb0 hb1 hb2
  have ha0 := fun b : Blk => get_old (L := [b]) hb0
  have ha1 := fun b : Blk => get_old (L := [b]) hb1
  have ha2 := fun b : Blk => get_old (L := [b]) hb2
  repeat' (first | (refine KV.run _ ?_) | (refine KQ.run _ ?_) | (refine KT.run _ ?_) | (refine AWp.seqH fun KC => ?_) | (refine AWp.block ?_) | (refine AWp.region ?_) | (refine mops_step0 rfl rfl fun KC => ?_) | (refine mops_step1 rfl fun KC => ?_) | (refine mops_step2 rfl fun KC => ?_) | (refine AWp.ret ?_) | (refine AWp.skip ?_) | (refine AWp.exit ?_) | (refine aops_callH rfl fun kC => ?_) | (refine qops_callH rfl fun kC => ?_) | (refine AWp.condB ?_) | (simp only [bse, wk, tys, storeH_ptr, Nat.reduceEqDiff, ↓reduceIte, reduceCtorEq, Nat.reduceAdd, Nat.reduceLeDiff, Int.reduceBEq, Int.reduceLT, Int.reduceLE, Int.reduceEq, ne_eq, not_false_eq_true, Nat.reduceMul, voterE_val, voterE_sz, choiceE_val, choiceE_sz, refE_val, refE_sz, voterResultE_val, voterResultE_sz, voteE_val, voteE_sz, *]) | (refine condK_bool (fun hb => ?_) (fun hb => ?_) <;> ((try simp only [Bool.not_eq_true', Bool.not_eq_false'] at hb) <;> (try (have hbe := of_decide_eq_true hb)) <;> (try (have hbe := eq_of_beq hb)))) | (refine aops_partB ?_) | (refine qops_partB ?_))
  refine AWp.absb hc ?_
  intro H3 hc
  clear hb0 ha0 hb1 ha1 hb2 ha2
  have hb0 := hc.bx 0 rfl
  have hb1 := hc.bx 1 rfl
  have hb2 := hc.bx 2 rfl
  have hb3 := hc.bx 3 rfl
  try simp only [List.length_nil, Nat.zero_add, Nat.reduceAdd] at hb0 hb1 hb2 hb3
  have ha0 := fun b : Blk => get_old (L := [b]) hb0
  have ha1 := fun b : Blk => get_old (L := [b]) hb1
  have ha2 := fun b : Blk => get_old (L := [b]) hb2
  have ha3 := fun b : Blk => get_old (L := [b]) hb3
  refine AWp.mixedT (id := 7) (.cons 0 0 (.cons 1 0 (.cons 3 0 (.alt 2 1 (.alt 4 1 (.cons 5 1 (.cons 6 2 .nil)) (.cons 5 1 (.cons 4 1 (.cons 6 2 .nil)))) (.cons 5 1 (.cons 2 1 (.cons 4 1 (.cons 6 2 .nil)))))))) (by kernel_rfl) (by kernel_rfl) ?_
  refine mopsT_abs fun e0 he0 => ?_
  have r2 := congrFun he0 2
  have r4 := congrFun he0 4
  have r9 := congrFun he0 9
  try simp only [bse, wk, tys, storeH_ptr, Nat.reduceEqDiff, ↓reduceIte, reduceCtorEq, Nat.reduceAdd, Nat.reduceLeDiff, Int.reduceBEq, Int.reduceLT, Int.reduceLE, Int.reduceEq, ne_eq, not_false_eq_true, Nat.reduceMul, voterE_val, voterE_sz, choiceE_val, choiceE_sz, refE_val, refE_sz, voterResultE_val, voterResultE_sz, voteE_val, voteE_sz] at r2 r4 r9
  have he1 : Hid _ := he0
  clear he0
  refine mopsT_mono (K := fun e' H' => Agree [10, 28, 29, 30, 31, 32] e0 e' ∧ (CxE hc 10 125 (voterResultE.val w) (fun xs => ∃ a m u, xs = [.int .i64 w.code, .int .i64 w.vote.key, .int .i64 w.vote.kind, .int .i64 w.vote.block, .int .i64 w.vote.ref.tx, .int .i64 w.vote.ref.at', .int .i64 w.vote.tx, .int .i64 w.voter.key, .int .i64 w.voter.last, .slice a m u]) e' H')) ?cont _ _ _ ?leaf
  case leaf =>
    repeat' (first | (refine mopsT_step0 rfl rfl fun KC => ?_) | (refine mopsT_step1 rfl fun KC => ?_) | (refine mopsT_step2 rfl fun KC => ?_) | (refine mopsT_alt1 rfl (fun KC => ?_) ?_) | (refine mopsT_alt2 rfl (fun KC => ?_) ?_) | (refine ACalls.start ?_; first | (refine ACalls.ofJi (laws_toRef r) rfl ?_)) | (refine qcall_start ?_; first | (refine qcallFi (laws_toRef r) rfl ?_ ?_; (focus ((first | exact rfl | (simp [pureV, flatV, voterE_val, voterE_sz, choiceE_val, choiceE_sz, refE_val, refE_sz, voterResultE_val, voterResultE_sz, voteE_val, voteE_sz]; done)))))) | (refine KV.run _ ?_) | (refine KQ.run _ ?_) | (refine KT.run _ ?_) | (refine AWp.seqH fun KC => ?_) | (refine AWp.block ?_) | (refine AWp.region ?_) | (refine mops_step0 rfl rfl fun KC => ?_) | (refine mops_step1 rfl fun KC => ?_) | (refine mops_step2 rfl fun KC => ?_) | (refine AWp.ret ?_) | (refine AWp.skip ?_) | (refine AWp.exit ?_) | (refine aops_callH rfl fun kC => ?_) | (refine qops_callH rfl fun kC => ?_) | (refine AWp.condB ?_) | (simp only [bse, wk, tys, storeH_ptr, Nat.reduceEqDiff, ↓reduceIte, reduceCtorEq, Nat.reduceAdd, Nat.reduceLeDiff, Int.reduceBEq, Int.reduceLT, Int.reduceLE, Int.reduceEq, ne_eq, not_false_eq_true, Nat.reduceMul, voterE_val, voterE_sz, choiceE_val, choiceE_sz, refE_val, refE_sz, voterResultE_val, voterResultE_sz, voteE_val, voteE_sz, *]) | (refine condK_bool (fun hb => ?_) (fun hb => ?_) <;> ((try simp only [Bool.not_eq_true', Bool.not_eq_false'] at hb) <;> (try (have hbe := of_decide_eq_true hb)) <;> (try (have hbe := eq_of_beq hb)))) | (refine aops_partB ?_) | (refine qops_partB ?_))
    · skip
      refine ACalls.get (NCalls.use himpl (.cons (hc.get 0 rfl).bor1 (.cons (.same _ (by first | exact islE_im _ _ | exact Enc.val_im _ _ | exact Im.flat _ rfl | (repeat' (first | exact Im.nilL | refine Im.consL ?_ ?_ | exact Im.flat _ rfl | exact islE_im _ _ | exact Enc.val_im _ _ | refine Im.aggL ?_ | refine Im.tupleL ?_ | refine Im.isl ?_)))) (.cons (.same _ (by first | exact islE_im _ _ | exact Enc.val_im _ _ | exact Im.flat _ rfl | (repeat' (first | exact Im.nilL | refine Im.consL ?_ ?_ | exact Im.flat _ rfl | exact islE_im _ _ | exact Enc.val_im _ _ | refine Im.aggL ?_ | refine Im.tupleL ?_ | refine Im.isl ?_)))) (.nil))))) (by first | exact Nat.le_refl _ | exact Nat.zero_le _ | (simp only [List.length_append, List.length_cons, List.length_nil]; omega) | (simp only [List.length_set]; omega) | omega) (by first | exact Nat.le_refl _ | exact Nat.zero_le _ | (simp only [List.length_append, List.length_cons, List.length_nil]; omega) | (simp only [List.length_set]; omega) | omega) ?_
      rintro dg H5 ⟨Sg, hNg⟩
      have og0 := hNg.own
      obtain ⟨xg, rfl, og⟩ := OwnL.aggI og0
      clear og0
      obtain ⟨m_g_0, rfl, og_n1⟩ := OwnL.flatI og rfl
      obtain ⟨m_g_1, rfl, og_n2⟩ := OwnL.flatI og_n1 rfl
      obtain ⟨m_g_2, rfl, og_n3⟩ := OwnL.flatI og_n2 rfl
      obtain ⟨m_g_3, rfl, og_n4⟩ := OwnL.flatI og_n3 rfl
      obtain ⟨m_g_4, rfl, og_n5⟩ := OwnL.flatI og_n4 rfl
      obtain ⟨m_g_5, rfl, og_n6⟩ := OwnL.flatI og_n5 rfl
      obtain ⟨m_g_6, rfl, og_n7⟩ := OwnL.flatI og_n6 rfl
      obtain ⟨m_g_7, rfl, og_n8⟩ := OwnL.flatI og_n7 rfl
      obtain ⟨m_g_8, rfl, og_n9⟩ := OwnL.flatI og_n8 rfl
      obtain ⟨d_g_9, m_g_9, S_g_9, R_g_9, rfl, rfl, p_g_9, og_n10⟩ := OwnL.consI og_n9
      obtain ⟨a_g_9, n_g_9, v_g_9, rfl⟩ := OwnL.slD p_g_9
      obtain ⟨rfl, rfl⟩ := OwnL.nilI og_n10
      clear og_n1 og_n2 og_n3 og_n4 og_n5 og_n6 og_n7 og_n8 og_n9 og_n10
      have hc3 := hc.new hNg
      clear hNg
      simp only [List.nil_append, List.cons_append] at hc3
      clear hb0 ha0 hb1 ha1 hb2 ha2 hb3 ha3
      have hb0 := hc3.bx 0 rfl
      have hb1 := hc3.bx 1 rfl
      have hb2 := hc3.bx 2 rfl
      have hb3 := hc3.bx 3 rfl
      try simp only [List.length_nil, Nat.zero_add, Nat.reduceAdd] at hb0 hb1 hb2 hb3
      have ha0 := fun b : Blk => get_old (L := [b]) hb0
      have ha1 := fun b : Blk => get_old (L := [b]) hb1
      have ha2 := fun b : Blk => get_old (L := [b]) hb2
      have ha3 := fun b : Blk => get_old (L := [b]) hb3
      repeat' (first | (refine mopsT_step0 rfl rfl fun KC => ?_) | (refine mopsT_step1 rfl fun KC => ?_) | (refine mopsT_step2 rfl fun KC => ?_) | (refine mopsT_alt1 rfl (fun KC => ?_) ?_) | (refine mopsT_alt2 rfl (fun KC => ?_) ?_) | (refine ACalls.start ?_; first | (refine ACalls.ofJi (laws_toRef r) rfl ?_)) | (refine qcall_start ?_; first | (refine qcallFi (laws_toRef r) rfl ?_ ?_; (focus ((first | exact rfl | (simp [pureV, flatV, voterE_val, voterE_sz, choiceE_val, choiceE_sz, refE_val, refE_sz, voterResultE_val, voterResultE_sz, voteE_val, voteE_sz]; done)))))) | (refine KV.run _ ?_) | (refine KQ.run _ ?_) | (refine KT.run _ ?_) | (refine AWp.seqH fun KC => ?_) | (refine AWp.block ?_) | (refine AWp.region ?_) | (refine mops_step0 rfl rfl fun KC => ?_) | (refine mops_step1 rfl fun KC => ?_) | (refine mops_step2 rfl fun KC => ?_) | (refine AWp.ret ?_) | (refine AWp.skip ?_) | (refine AWp.exit ?_) | (refine aops_callH rfl fun kC => ?_) | (refine qops_callH rfl fun kC => ?_) | (refine AWp.condB ?_) | (simp only [bse, wk, tys, storeH_ptr, Nat.reduceEqDiff, ↓reduceIte, reduceCtorEq, Nat.reduceAdd, Nat.reduceLeDiff, Int.reduceBEq, Int.reduceLT, Int.reduceLE, Int.reduceEq, ne_eq, not_false_eq_true, Nat.reduceMul, voterE_val, voterE_sz, choiceE_val, choiceE_sz, refE_val, refE_sz, voterResultE_val, voterResultE_sz, voteE_val, voteE_sz, *]) | (refine condK_bool (fun hb => ?_) (fun hb => ?_) <;> ((try simp only [Bool.not_eq_true', Bool.not_eq_false'] at hb) <;> (try (have hbe := of_decide_eq_true hb)) <;> (try (have hbe := eq_of_beq hb)))) | (refine aops_partB ?_) | (refine qops_partB ?_))
      have hz := hc3.push ⟨125, 0, [.int .i64 w.code, .int .i64 w.vote.key, .int .i64 w.vote.kind, .int .i64 w.vote.block, .int .i64 w.vote.ref.tx, .int .i64 w.vote.ref.at', .int .i64 w.vote.tx, .int .i64 w.voter.key, .int .i64 w.voter.last, .slice a_g_9 n_g_9 v_g_9], 0, true⟩
      simp only [bse, wk, tys, storeH_ptr, Nat.reduceEqDiff, ↓reduceIte, reduceCtorEq, Nat.reduceAdd, Nat.reduceLeDiff, Int.reduceBEq, Int.reduceLT, Int.reduceLE, Int.reduceEq, ne_eq, not_false_eq_true, Nat.reduceMul, voterE_val, voterE_sz, choiceE_val, choiceE_sz, refE_val, refE_sz, voterResultE_val, voterResultE_sz, voteE_val, voteE_sz] at hz
      exact ⟨(by repeat (first | exact Agree.refl _ _ | assumption | refine Agree.put ?_ rfl _)), _, _, _, rfl, ⟨_, _, _, rfl⟩, by simpa only [bse, wk, tys, storeH_ptr, Nat.reduceEqDiff, ↓reduceIte, reduceCtorEq, Nat.reduceAdd, Nat.reduceLeDiff, Int.reduceBEq, Int.reduceLT, Int.reduceLE, Int.reduceEq, ne_eq, not_false_eq_true, Nat.reduceMul, voterE_val, voterE_sz, choiceE_val, choiceE_sz, refE_val, refE_sz, voterResultE_val, voterResultE_sz, voteE_val, voteE_sz] using hz⟩
    · skip
      refine ACalls.absbL hc ?_
      intro H4 hL hc2
      clear hb0 ha0 hb1 ha1 hb2 ha2 hb3 ha3
      have hb0 := hc2.bx 0 rfl
      have hb1 := hc2.bx 1 rfl
      have hb2 := hc2.bx 2 rfl
      have hb3 := hc2.bx 3 rfl
      have hb4 := hc2.bx 4 rfl
      try simp only [List.length_nil, Nat.zero_add, Nat.reduceAdd] at hb0 hb1 hb2 hb3 hb4
      have ha0 := fun b : Blk => get_old (L := [b]) hb0
      have ha1 := fun b : Blk => get_old (L := [b]) hb1
      have ha2 := fun b : Blk => get_old (L := [b]) hb2
      have ha3 := fun b : Blk => get_old (L := [b]) hb3
      have ha4 := fun b : Blk => get_old (L := [b]) hb4
      refine ACalls.get (NCalls.use himpl (.cons (hc2.get 0 rfl).bor1 (.cons (.same _ (by first | exact islE_im _ _ | exact Enc.val_im _ _ | exact Im.flat _ rfl | (repeat' (first | exact Im.nilL | refine Im.consL ?_ ?_ | exact Im.flat _ rfl | exact islE_im _ _ | exact Enc.val_im _ _ | refine Im.aggL ?_ | refine Im.tupleL ?_ | refine Im.isl ?_)))) (.cons (.same _ (by first | exact islE_im _ _ | exact Enc.val_im _ _ | exact Im.flat _ rfl | (repeat' (first | exact Im.nilL | refine Im.consL ?_ ?_ | exact Im.flat _ rfl | exact islE_im _ _ | exact Enc.val_im _ _ | refine Im.aggL ?_ | refine Im.tupleL ?_ | refine Im.isl ?_)))) (.nil))))) (by first | exact Nat.le_refl _ | exact Nat.zero_le _ | (simp only [List.length_append, List.length_cons, List.length_nil]; omega) | (simp only [List.length_set]; omega) | omega) (by first | exact Nat.le_refl _ | exact Nat.zero_le _ | (simp only [List.length_append, List.length_cons, List.length_nil]; omega) | (simp only [List.length_set]; omega) | omega) ?_
      rintro dg H5 ⟨Sg, hNg⟩
      have og0 := hNg.own
      obtain ⟨xg, rfl, og⟩ := OwnL.aggI og0
      clear og0
      obtain ⟨m_g_0, rfl, og_n1⟩ := OwnL.flatI og rfl
      obtain ⟨m_g_1, rfl, og_n2⟩ := OwnL.flatI og_n1 rfl
      obtain ⟨m_g_2, rfl, og_n3⟩ := OwnL.flatI og_n2 rfl
      obtain ⟨m_g_3, rfl, og_n4⟩ := OwnL.flatI og_n3 rfl
      obtain ⟨m_g_4, rfl, og_n5⟩ := OwnL.flatI og_n4 rfl
      obtain ⟨m_g_5, rfl, og_n6⟩ := OwnL.flatI og_n5 rfl
      obtain ⟨m_g_6, rfl, og_n7⟩ := OwnL.flatI og_n6 rfl
      obtain ⟨m_g_7, rfl, og_n8⟩ := OwnL.flatI og_n7 rfl
      obtain ⟨m_g_8, rfl, og_n9⟩ := OwnL.flatI og_n8 rfl
      obtain ⟨d_g_9, m_g_9, S_g_9, R_g_9, rfl, rfl, p_g_9, og_n10⟩ := OwnL.consI og_n9
      obtain ⟨a_g_9, n_g_9, v_g_9, rfl⟩ := OwnL.slD p_g_9
      obtain ⟨rfl, rfl⟩ := OwnL.nilI og_n10
      clear og_n1 og_n2 og_n3 og_n4 og_n5 og_n6 og_n7 og_n8 og_n9 og_n10
      have hc3 := hc2.new hNg
      clear hNg
      simp only [List.nil_append, List.cons_append] at hc3
      clear hb0 ha0 hb1 ha1 hb2 ha2 hb3 ha3 hb4 ha4
      have hb0 := hc3.bx 0 rfl
      have hb1 := hc3.bx 1 rfl
      have hb2 := hc3.bx 2 rfl
      have hb3 := hc3.bx 3 rfl
      have hb4 := hc3.bx 4 rfl
      try simp only [List.length_nil, Nat.zero_add, Nat.reduceAdd] at hb0 hb1 hb2 hb3 hb4
      have ha0 := fun b : Blk => get_old (L := [b]) hb0
      have ha1 := fun b : Blk => get_old (L := [b]) hb1
      have ha2 := fun b : Blk => get_old (L := [b]) hb2
      have ha3 := fun b : Blk => get_old (L := [b]) hb3
      have ha4 := fun b : Blk => get_old (L := [b]) hb4
      repeat' (first | (refine mopsT_step0 rfl rfl fun KC => ?_) | (refine mopsT_step1 rfl fun KC => ?_) | (refine mopsT_step2 rfl fun KC => ?_) | (refine mopsT_alt1 rfl (fun KC => ?_) ?_) | (refine mopsT_alt2 rfl (fun KC => ?_) ?_) | (refine ACalls.start ?_; first | (refine ACalls.ofJi (laws_toRef r) rfl ?_)) | (refine qcall_start ?_; first | (refine qcallFi (laws_toRef r) rfl ?_ ?_; (focus ((first | exact rfl | (simp [pureV, flatV, voterE_val, voterE_sz, choiceE_val, choiceE_sz, refE_val, refE_sz, voterResultE_val, voterResultE_sz, voteE_val, voteE_sz]; done)))))) | (refine KV.run _ ?_) | (refine KQ.run _ ?_) | (refine KT.run _ ?_) | (refine AWp.seqH fun KC => ?_) | (refine AWp.block ?_) | (refine AWp.region ?_) | (refine mops_step0 rfl rfl fun KC => ?_) | (refine mops_step1 rfl fun KC => ?_) | (refine mops_step2 rfl fun KC => ?_) | (refine AWp.ret ?_) | (refine AWp.skip ?_) | (refine AWp.exit ?_) | (refine aops_callH rfl fun kC => ?_) | (refine qops_callH rfl fun kC => ?_) | (refine AWp.condB ?_) | (simp only [bse, wk, tys, storeH_ptr, Nat.reduceEqDiff, ↓reduceIte, reduceCtorEq, Nat.reduceAdd, Nat.reduceLeDiff, Int.reduceBEq, Int.reduceLT, Int.reduceLE, Int.reduceEq, ne_eq, not_false_eq_true, Nat.reduceMul, voterE_val, voterE_sz, choiceE_val, choiceE_sz, refE_val, refE_sz, voterResultE_val, voterResultE_sz, voteE_val, voteE_sz, *]) | (refine condK_bool (fun hb => ?_) (fun hb => ?_) <;> ((try simp only [Bool.not_eq_true', Bool.not_eq_false'] at hb) <;> (try (have hbe := of_decide_eq_true hb)) <;> (try (have hbe := eq_of_beq hb)))) | (refine aops_partB ?_) | (refine qops_partB ?_))
      have hz := hc3.setBox 0 rfl ⟨125, 0, [.int .i64 w.code, .int .i64 w.vote.key, .int .i64 w.vote.kind, .int .i64 w.vote.block, .int .i64 w.vote.ref.tx, .int .i64 w.vote.ref.at', .int .i64 w.vote.tx, .int .i64 w.voter.key, .int .i64 w.voter.last, .slice a_g_9 n_g_9 v_g_9], 0, true⟩
      simp only [List.set_cons_zero, bse, wk, tys, storeH_ptr, Nat.reduceEqDiff, ↓reduceIte, reduceCtorEq, Nat.reduceAdd, Nat.reduceLeDiff, Int.reduceBEq, Int.reduceLT, Int.reduceLE, Int.reduceEq, ne_eq, not_false_eq_true, Nat.reduceMul, voterE_val, voterE_sz, choiceE_val, choiceE_sz, refE_val, refE_sz, voterResultE_val, voterResultE_sz, voteE_val, voteE_sz] at hz
      exact ⟨(by repeat (first | exact Agree.refl _ _ | assumption | refine Agree.put ?_ rfl _)), _, _, _, rfl, ⟨_, _, _, rfl⟩, by simpa only [bse, wk, tys, storeH_ptr, Nat.reduceEqDiff, ↓reduceIte, reduceCtorEq, Nat.reduceAdd, Nat.reduceLeDiff, Int.reduceBEq, Int.reduceLT, Int.reduceLE, Int.reduceEq, ne_eq, not_false_eq_true, Nat.reduceMul, voterE_val, voterE_sz, choiceE_val, choiceE_sz, refE_val, refE_sz, voterResultE_val, voterResultE_sz, voteE_val, voteE_sz] using hz⟩
    · skip
      refine ACalls.absbL hc ?_
      intro H4 hL hc2
      clear hb0 ha0 hb1 ha1 hb2 ha2 hb3 ha3
      have hb0 := hc2.bx 0 rfl
      have hb1 := hc2.bx 1 rfl
      have hb2 := hc2.bx 2 rfl
      have hb3 := hc2.bx 3 rfl
      have hb4 := hc2.bx 4 rfl
      try simp only [List.length_nil, Nat.zero_add, Nat.reduceAdd] at hb0 hb1 hb2 hb3 hb4
      have ha0 := fun b : Blk => get_old (L := [b]) hb0
      have ha1 := fun b : Blk => get_old (L := [b]) hb1
      have ha2 := fun b : Blk => get_old (L := [b]) hb2
      have ha3 := fun b : Blk => get_old (L := [b]) hb3
      have ha4 := fun b : Blk => get_old (L := [b]) hb4
      refine ACalls.get (NCalls.use himpl (.cons (hc2.get 0 rfl).bor1 (.cons (.same _ (by first | exact islE_im _ _ | exact Enc.val_im _ _ | exact Im.flat _ rfl | (repeat' (first | exact Im.nilL | refine Im.consL ?_ ?_ | exact Im.flat _ rfl | exact islE_im _ _ | exact Enc.val_im _ _ | refine Im.aggL ?_ | refine Im.tupleL ?_ | refine Im.isl ?_)))) (.cons (.same _ (by first | exact islE_im _ _ | exact Enc.val_im _ _ | exact Im.flat _ rfl | (repeat' (first | exact Im.nilL | refine Im.consL ?_ ?_ | exact Im.flat _ rfl | exact islE_im _ _ | exact Enc.val_im _ _ | refine Im.aggL ?_ | refine Im.tupleL ?_ | refine Im.isl ?_)))) (.nil))))) (by first | exact Nat.le_refl _ | exact Nat.zero_le _ | (simp only [List.length_append, List.length_cons, List.length_nil]; omega) | (simp only [List.length_set]; omega) | omega) (by first | exact Nat.le_refl _ | exact Nat.zero_le _ | (simp only [List.length_append, List.length_cons, List.length_nil]; omega) | (simp only [List.length_set]; omega) | omega) ?_
      rintro dg H5 ⟨Sg, hNg⟩
      have og0 := hNg.own
      obtain ⟨xg, rfl, og⟩ := OwnL.aggI og0
      clear og0
      obtain ⟨m_g_0, rfl, og_n1⟩ := OwnL.flatI og rfl
      obtain ⟨m_g_1, rfl, og_n2⟩ := OwnL.flatI og_n1 rfl
      obtain ⟨m_g_2, rfl, og_n3⟩ := OwnL.flatI og_n2 rfl
      obtain ⟨m_g_3, rfl, og_n4⟩ := OwnL.flatI og_n3 rfl
      obtain ⟨m_g_4, rfl, og_n5⟩ := OwnL.flatI og_n4 rfl
      obtain ⟨m_g_5, rfl, og_n6⟩ := OwnL.flatI og_n5 rfl
      obtain ⟨m_g_6, rfl, og_n7⟩ := OwnL.flatI og_n6 rfl
      obtain ⟨m_g_7, rfl, og_n8⟩ := OwnL.flatI og_n7 rfl
      obtain ⟨m_g_8, rfl, og_n9⟩ := OwnL.flatI og_n8 rfl
      obtain ⟨d_g_9, m_g_9, S_g_9, R_g_9, rfl, rfl, p_g_9, og_n10⟩ := OwnL.consI og_n9
      obtain ⟨a_g_9, n_g_9, v_g_9, rfl⟩ := OwnL.slD p_g_9
      obtain ⟨rfl, rfl⟩ := OwnL.nilI og_n10
      clear og_n1 og_n2 og_n3 og_n4 og_n5 og_n6 og_n7 og_n8 og_n9 og_n10
      have hc3 := hc2.new hNg
      clear hNg
      simp only [List.nil_append, List.cons_append] at hc3
      clear hb0 ha0 hb1 ha1 hb2 ha2 hb3 ha3 hb4 ha4
      have hb0 := hc3.bx 0 rfl
      have hb1 := hc3.bx 1 rfl
      have hb2 := hc3.bx 2 rfl
      have hb3 := hc3.bx 3 rfl
      have hb4 := hc3.bx 4 rfl
      try simp only [List.length_nil, Nat.zero_add, Nat.reduceAdd] at hb0 hb1 hb2 hb3 hb4
      have ha0 := fun b : Blk => get_old (L := [b]) hb0
      have ha1 := fun b : Blk => get_old (L := [b]) hb1
      have ha2 := fun b : Blk => get_old (L := [b]) hb2
      have ha3 := fun b : Blk => get_old (L := [b]) hb3
      have ha4 := fun b : Blk => get_old (L := [b]) hb4
      repeat' (first | (refine mopsT_step0 rfl rfl fun KC => ?_) | (refine mopsT_step1 rfl fun KC => ?_) | (refine mopsT_step2 rfl fun KC => ?_) | (refine mopsT_alt1 rfl (fun KC => ?_) ?_) | (refine mopsT_alt2 rfl (fun KC => ?_) ?_) | (refine ACalls.start ?_; first | (refine ACalls.ofJi (laws_toRef r) rfl ?_)) | (refine qcall_start ?_; first | (refine qcallFi (laws_toRef r) rfl ?_ ?_; (focus ((first | exact rfl | (simp [pureV, flatV, voterE_val, voterE_sz, choiceE_val, choiceE_sz, refE_val, refE_sz, voterResultE_val, voterResultE_sz, voteE_val, voteE_sz]; done)))))) | (refine KV.run _ ?_) | (refine KQ.run _ ?_) | (refine KT.run _ ?_) | (refine AWp.seqH fun KC => ?_) | (refine AWp.block ?_) | (refine AWp.region ?_) | (refine mops_step0 rfl rfl fun KC => ?_) | (refine mops_step1 rfl fun KC => ?_) | (refine mops_step2 rfl fun KC => ?_) | (refine AWp.ret ?_) | (refine AWp.skip ?_) | (refine AWp.exit ?_) | (refine aops_callH rfl fun kC => ?_) | (refine qops_callH rfl fun kC => ?_) | (refine AWp.condB ?_) | (simp only [bse, wk, tys, storeH_ptr, Nat.reduceEqDiff, ↓reduceIte, reduceCtorEq, Nat.reduceAdd, Nat.reduceLeDiff, Int.reduceBEq, Int.reduceLT, Int.reduceLE, Int.reduceEq, ne_eq, not_false_eq_true, Nat.reduceMul, voterE_val, voterE_sz, choiceE_val, choiceE_sz, refE_val, refE_sz, voterResultE_val, voterResultE_sz, voteE_val, voteE_sz, *]) | (refine condK_bool (fun hb => ?_) (fun hb => ?_) <;> ((try simp only [Bool.not_eq_true', Bool.not_eq_false'] at hb) <;> (try (have hbe := of_decide_eq_true hb)) <;> (try (have hbe := eq_of_beq hb)))) | (refine aops_partB ?_) | (refine qops_partB ?_))
      have hz := hc3.setBox 0 rfl ⟨125, 0, [.int .i64 w.code, .int .i64 w.vote.key, .int .i64 w.vote.kind, .int .i64 w.vote.block, .int .i64 w.vote.ref.tx, .int .i64 w.vote.ref.at', .int .i64 w.vote.tx, .int .i64 w.voter.key, .int .i64 w.voter.last, .slice a_g_9 n_g_9 v_g_9], 0, true⟩
      simp only [List.set_cons_zero, bse, wk, tys, storeH_ptr, Nat.reduceEqDiff, ↓reduceIte, reduceCtorEq, Nat.reduceAdd, Nat.reduceLeDiff, Int.reduceBEq, Int.reduceLT, Int.reduceLE, Int.reduceEq, ne_eq, not_false_eq_true, Nat.reduceMul, voterE_val, voterE_sz, choiceE_val, choiceE_sz, refE_val, refE_sz, voterResultE_val, voterResultE_sz, voteE_val, voteE_sz] at hz
      exact ⟨(by repeat (first | exact Agree.refl _ _ | assumption | refine Agree.put ?_ rfl _)), _, _, _, rfl, ⟨_, _, _, rfl⟩, by simpa only [bse, wk, tys, storeH_ptr, Nat.reduceEqDiff, ↓reduceIte, reduceCtorEq, Nat.reduceAdd, Nat.reduceLeDiff, Int.reduceBEq, Int.reduceLT, Int.reduceLE, Int.reduceEq, ne_eq, not_false_eq_true, Nat.reduceMul, voterE_val, voterE_sz, choiceE_val, choiceE_sz, refE_val, refE_sz, voterResultE_val, voterResultE_sz, voteE_val, voteE_sz] using hz⟩
  rintro e' H' ⟨hA, r10, xg, Sg, e10, ⟨ag, ng, vg, rfl⟩, hc⟩
  simp only [List.nil_append, List.cons_append] at hc
  have he2 := he1.out
  clear he1
  have a2 := hA 2 rfl
  have a3 := hA 3 rfl
  have a4 := hA 4 rfl
  have a6 := hA 6 rfl
  have a8 := hA 8 rfl
  have a9 := hA 9 rfl
  rw [he2] at a2 a3 a4 a6 a8 a9
  try simp only [bse, wk, tys, storeH_ptr, Nat.reduceEqDiff, ↓reduceIte, reduceCtorEq, Nat.reduceAdd, Nat.reduceLeDiff, Int.reduceBEq, Int.reduceLT, Int.reduceLE, Int.reduceEq, ne_eq, not_false_eq_true, Nat.reduceMul, voterE_val, voterE_sz, choiceE_val, choiceE_sz, refE_val, refE_sz, voterResultE_val, voterResultE_sz, voteE_val, voteE_sz] at a2 a3 a4 a6 a8 a9
  clear hA he2
  clear hb0 ha0 hb1 ha1 hb2 ha2 hb3 ha3
  have hb0 := hc.bx 0 rfl
  have hb1 := hc.bx 1 rfl
  have hb2 := hc.bx 2 rfl
  have hb3 := hc.bx 3 rfl
  have hb4 := hc.bx 4 rfl
  try simp only [List.length_nil, Nat.zero_add, Nat.reduceAdd] at hb0 hb1 hb2 hb3 hb4
  have ha0 := fun b : Blk => get_old (L := [b]) hb0
  have ha1 := fun b : Blk => get_old (L := [b]) hb1
  have ha2 := fun b : Blk => get_old (L := [b]) hb2
  have ha3 := fun b : Blk => get_old (L := [b]) hb3
  have ha4 := fun b : Blk => get_old (L := [b]) hb4
  repeat' (first | (refine AWp.mixed (id := 10) [(0, 0), (1, 0), (2, 1), (3, 1), (4, 0)] (by kernel_rfl) (by kernel_rfl) ?_) | (refine AWp.mixedT (id := 5) (.cons 0 0 (.cons 2 0 (.cons 4 0 (.alt 1 1 (.alt 3 1 (.alt 5 1 (.cons 6 1 (.cons 7 2 .nil)) (.cons 6 1 (.cons 5 1 (.cons 7 2 .nil)))) (.cons 6 1 (.cons 3 1 (.cons 5 1 (.cons 7 2 .nil))))) (.cons 6 1 (.cons 1 1 (.cons 3 1 (.cons 5 1 (.cons 7 2 .nil))))))))) (by kernel_rfl) (by kernel_rfl) ?_) | (refine AWp.mixedT (id := 7) (.cons 0 0 (.cons 1 0 (.cons 3 0 (.alt 2 1 (.alt 4 1 (.cons 5 1 (.cons 6 2 .nil)) (.cons 5 1 (.cons 4 1 (.cons 6 2 .nil)))) (.cons 5 1 (.cons 2 1 (.cons 4 1 (.cons 6 2 .nil)))))))) (by kernel_rfl) (by kernel_rfl) ?_) | (refine AWp.mixedT (id := 24) (.cons 0 0 (.cons 2 0 (.cons 4 0 (.alt 1 1 (.alt 3 1 (.alt 5 1 (.cons 6 1 (.cons 7 2 .nil)) (.cons 6 1 (.cons 5 1 (.cons 7 2 .nil)))) (.cons 6 1 (.cons 3 1 (.cons 5 1 (.cons 7 2 .nil))))) (.cons 6 1 (.cons 1 1 (.cons 3 1 (.cons 5 1 (.cons 7 2 .nil))))))))) (by kernel_rfl) (by kernel_rfl) ?_) | (refine mopsT_step0 rfl rfl fun KC => ?_) | (refine mopsT_step1 rfl fun KC => ?_) | (refine mopsT_step2 rfl fun KC => ?_) | (refine mopsT_alt1 rfl (fun KC => ?_) ?_) | (refine mopsT_alt2 rfl (fun KC => ?_) ?_) | (refine KV.run _ ?_) | (refine KQ.run _ ?_) | (refine KT.run _ ?_) | (refine AWp.seqH fun KC => ?_) | (refine AWp.block ?_) | (refine AWp.region ?_) | (refine mops_step0 rfl rfl fun KC => ?_) | (refine mops_step1 rfl fun KC => ?_) | (refine mops_step2 rfl fun KC => ?_) | (refine AWp.ret ?_) | (refine AWp.skip ?_) | (refine AWp.exit ?_) | (refine aops_callH rfl fun kC => ?_) | (refine qops_callH rfl fun kC => ?_) | (refine AWp.condB ?_) | (simp only [bse, wk, tys, storeH_ptr, Nat.reduceEqDiff, ↓reduceIte, reduceCtorEq, Nat.reduceAdd, Nat.reduceLeDiff, Int.reduceBEq, Int.reduceLT, Int.reduceLE, Int.reduceEq, ne_eq, not_false_eq_true, Nat.reduceMul, voterE_val, voterE_sz, choiceE_val, choiceE_sz, refE_val, refE_sz, voterResultE_val, voterResultE_sz, voteE_val, voteE_sz, *]) | (refine condK_bool (fun hb => ?_) (fun hb => ?_) <;> ((try simp only [Bool.not_eq_true', Bool.not_eq_false'] at hb) <;> (try (have hbe := of_decide_eq_true hb)) <;> (try (have hbe := eq_of_beq hb)))) | (refine aops_partB ?_) | (refine qops_partB ?_))
  refine ACalls.ofP (heq) (.cons (hc.get 1 rfl).bor1 (.cons (.same _ (by first | exact islE_im _ _ | exact Enc.val_im _ _ | exact Im.flat _ rfl | (repeat' (first | exact Im.nilL | refine Im.consL ?_ ?_ | exact Im.flat _ rfl | exact islE_im _ _ | exact Enc.val_im _ _ | refine Im.aggL ?_ | refine Im.tupleL ?_ | refine Im.isl ?_)))) (.nil))) rfl ?_
  repeat' (first | (refine AWp.mixed (id := 10) [(0, 0), (1, 0), (2, 1), (3, 1), (4, 0)] (by kernel_rfl) (by kernel_rfl) ?_) | (refine AWp.mixedT (id := 5) (.cons 0 0 (.cons 2 0 (.cons 4 0 (.alt 1 1 (.alt 3 1 (.alt 5 1 (.cons 6 1 (.cons 7 2 .nil)) (.cons 6 1 (.cons 5 1 (.cons 7 2 .nil)))) (.cons 6 1 (.cons 3 1 (.cons 5 1 (.cons 7 2 .nil))))) (.cons 6 1 (.cons 1 1 (.cons 3 1 (.cons 5 1 (.cons 7 2 .nil))))))))) (by kernel_rfl) (by kernel_rfl) ?_) | (refine AWp.mixedT (id := 7) (.cons 0 0 (.cons 1 0 (.cons 3 0 (.alt 2 1 (.alt 4 1 (.cons 5 1 (.cons 6 2 .nil)) (.cons 5 1 (.cons 4 1 (.cons 6 2 .nil)))) (.cons 5 1 (.cons 2 1 (.cons 4 1 (.cons 6 2 .nil)))))))) (by kernel_rfl) (by kernel_rfl) ?_) | (refine AWp.mixedT (id := 24) (.cons 0 0 (.cons 2 0 (.cons 4 0 (.alt 1 1 (.alt 3 1 (.alt 5 1 (.cons 6 1 (.cons 7 2 .nil)) (.cons 6 1 (.cons 5 1 (.cons 7 2 .nil)))) (.cons 6 1 (.cons 3 1 (.cons 5 1 (.cons 7 2 .nil))))) (.cons 6 1 (.cons 1 1 (.cons 3 1 (.cons 5 1 (.cons 7 2 .nil))))))))) (by kernel_rfl) (by kernel_rfl) ?_) | (refine mopsT_step0 rfl rfl fun KC => ?_) | (refine mopsT_step1 rfl fun KC => ?_) | (refine mopsT_step2 rfl fun KC => ?_) | (refine mopsT_alt1 rfl (fun KC => ?_) ?_) | (refine mopsT_alt2 rfl (fun KC => ?_) ?_) | (refine ACalls.start ?_; first | (refine ACalls.ofJi (laws_toVoter v n_v) rfl ?_) | (refine ACalls.ofJi (laws_toRef r) rfl ?_)) | (refine qcall_start ?_; first | (refine qcallFi (laws_toVoter v n_v) rfl ?_ ?_; (focus ((first | exact rfl | (simp [pureV, flatV, voterE_val, voterE_sz, choiceE_val, choiceE_sz, refE_val, refE_sz, voterResultE_val, voterResultE_sz, voteE_val, voteE_sz]; done))))) | (refine qcallFi (laws_toRef r) rfl ?_ ?_; (focus ((first | exact rfl | (simp [pureV, flatV, voterE_val, voterE_sz, choiceE_val, choiceE_sz, refE_val, refE_sz, voterResultE_val, voterResultE_sz, voteE_val, voteE_sz]; done)))))) | (refine KV.run _ ?_) | (refine KQ.run _ ?_) | (refine KT.run _ ?_) | (refine AWp.seqH fun KC => ?_) | (refine AWp.block ?_) | (refine AWp.region ?_) | (refine mops_step0 rfl rfl fun KC => ?_) | (refine mops_step1 rfl fun KC => ?_) | (refine mops_step2 rfl fun KC => ?_) | (refine AWp.ret ?_) | (refine AWp.skip ?_) | (refine AWp.exit ?_) | (refine aops_callH rfl fun kC => ?_) | (refine qops_callH rfl fun kC => ?_) | (refine AWp.condB ?_) | (simp only [bse, wk, tys, storeH_ptr, Nat.reduceEqDiff, ↓reduceIte, reduceCtorEq, Nat.reduceAdd, Nat.reduceLeDiff, Int.reduceBEq, Int.reduceLT, Int.reduceLE, Int.reduceEq, ne_eq, not_false_eq_true, Nat.reduceMul, voterE_val, voterE_sz, choiceE_val, choiceE_sz, refE_val, refE_sz, voterResultE_val, voterResultE_sz, voteE_val, voteE_sz, *]) | (refine condK_bool (fun hb => ?_) (fun hb => ?_) <;> ((try simp only [Bool.not_eq_true', Bool.not_eq_false'] at hb) <;> (try (have hbe := of_decide_eq_true hb)) <;> (try (have hbe := eq_of_beq hb)))) | (refine aops_partB ?_) | (refine qops_partB ?_))
  refine ACalls.ofP (laws_eqVoter v n_v) (.cons (hc.get 0 rfl).bor1 (.cons (.same _ (by first | exact islE_im _ _ | exact Enc.val_im _ _ | exact Im.flat _ rfl | (repeat' (first | exact Im.nilL | refine Im.consL ?_ ?_ | exact Im.flat _ rfl | exact islE_im _ _ | exact Enc.val_im _ _ | refine Im.aggL ?_ | refine Im.tupleL ?_ | refine Im.isl ?_)))) (.nil))) rfl ?_
  repeat' (first | (refine AWp.mixed (id := 10) [(0, 0), (1, 0), (2, 1), (3, 1), (4, 0)] (by kernel_rfl) (by kernel_rfl) ?_) | (refine AWp.mixedT (id := 5) (.cons 0 0 (.cons 2 0 (.cons 4 0 (.alt 1 1 (.alt 3 1 (.alt 5 1 (.cons 6 1 (.cons 7 2 .nil)) (.cons 6 1 (.cons 5 1 (.cons 7 2 .nil)))) (.cons 6 1 (.cons 3 1 (.cons 5 1 (.cons 7 2 .nil))))) (.cons 6 1 (.cons 1 1 (.cons 3 1 (.cons 5 1 (.cons 7 2 .nil))))))))) (by kernel_rfl) (by kernel_rfl) ?_) | (refine AWp.mixedT (id := 7) (.cons 0 0 (.cons 1 0 (.cons 3 0 (.alt 2 1 (.alt 4 1 (.cons 5 1 (.cons 6 2 .nil)) (.cons 5 1 (.cons 4 1 (.cons 6 2 .nil)))) (.cons 5 1 (.cons 2 1 (.cons 4 1 (.cons 6 2 .nil)))))))) (by kernel_rfl) (by kernel_rfl) ?_) | (refine AWp.mixedT (id := 24) (.cons 0 0 (.cons 2 0 (.cons 4 0 (.alt 1 1 (.alt 3 1 (.alt 5 1 (.cons 6 1 (.cons 7 2 .nil)) (.cons 6 1 (.cons 5 1 (.cons 7 2 .nil)))) (.cons 6 1 (.cons 3 1 (.cons 5 1 (.cons 7 2 .nil))))) (.cons 6 1 (.cons 1 1 (.cons 3 1 (.cons 5 1 (.cons 7 2 .nil))))))))) (by kernel_rfl) (by kernel_rfl) ?_) | (refine mopsT_step0 rfl rfl fun KC => ?_) | (refine mopsT_step1 rfl fun KC => ?_) | (refine mopsT_step2 rfl fun KC => ?_) | (refine mopsT_alt1 rfl (fun KC => ?_) ?_) | (refine mopsT_alt2 rfl (fun KC => ?_) ?_) | (refine KV.run _ ?_) | (refine KQ.run _ ?_) | (refine KT.run _ ?_) | (refine AWp.seqH fun KC => ?_) | (refine AWp.block ?_) | (refine AWp.region ?_) | (refine mops_step0 rfl rfl fun KC => ?_) | (refine mops_step1 rfl fun KC => ?_) | (refine mops_step2 rfl fun KC => ?_) | (refine AWp.ret ?_) | (refine AWp.skip ?_) | (refine AWp.exit ?_) | (refine aops_callH rfl fun kC => ?_) | (refine qops_callH rfl fun kC => ?_) | (refine AWp.condB ?_) | (simp only [bse, wk, tys, storeH_ptr, Nat.reduceEqDiff, ↓reduceIte, reduceCtorEq, Nat.reduceAdd, Nat.reduceLeDiff, Int.reduceBEq, Int.reduceLT, Int.reduceLE, Int.reduceEq, ne_eq, not_false_eq_true, Nat.reduceMul, voterE_val, voterE_sz, choiceE_val, choiceE_sz, refE_val, refE_sz, voterResultE_val, voterResultE_sz, voteE_val, voteE_sz, *]) | (refine condK_bool (fun hb => ?_) (fun hb => ?_) <;> ((try simp only [Bool.not_eq_true', Bool.not_eq_false'] at hb) <;> (try (have hbe := of_decide_eq_true hb)) <;> (try (have hbe := eq_of_beq hb)))) | (refine aops_partB ?_) | (refine qops_partB ?_))
  refine ACalls.get (mk_Voter v n_v _ _ _ (1) (hc.get 0 rfl) (hc.getNd 0 rfl) (by omega) (by omega)) (by first | exact Nat.le_refl _ | exact Nat.zero_le _ | (simp only [List.length_append, List.length_cons, List.length_nil]; omega) | (simp only [List.length_set]; omega) | omega) (by first | exact Nat.le_refl _ | exact Nat.zero_le _ | (simp only [List.length_append, List.length_cons, List.length_nil]; omega) | (simp only [List.length_set]; omega) | omega) ?_
  rintro _ H6 ⟨rfl, hM0⟩
  obtain ⟨y0, _, hc⟩ := hc.mark 0 rfl hM0
  clear hM0
  simp only [List.set_cons_zero, List.set_cons_succ] at hc
  clear hb0 ha0 hb1 ha1 hb2 ha2 hb3 ha3 hb4 ha4
  have hb0 := hc.bx 0 rfl
  have hb1 := hc.bx 1 rfl
  have hb2 := hc.bx 2 rfl
  have hb3 := hc.bx 3 rfl
  have hb4 := hc.bx 4 rfl
  try simp only [List.length_nil, Nat.zero_add, Nat.reduceAdd] at hb0 hb1 hb2 hb3 hb4
  have ha0 := fun b : Blk => get_old (L := [b]) hb0
  have ha1 := fun b : Blk => get_old (L := [b]) hb1
  have ha2 := fun b : Blk => get_old (L := [b]) hb2
  have ha3 := fun b : Blk => get_old (L := [b]) hb3
  have ha4 := fun b : Blk => get_old (L := [b]) hb4
  have hk0 : ¬ 1 + ((mVoter v : Nat) : Int) < 0 := by omega
  repeat' (first | (refine AWp.mixed (id := 10) [(0, 0), (1, 0), (2, 1), (3, 1), (4, 0)] (by kernel_rfl) (by kernel_rfl) ?_) | (refine AWp.mixedT (id := 5) (.cons 0 0 (.cons 2 0 (.cons 4 0 (.alt 1 1 (.alt 3 1 (.alt 5 1 (.cons 6 1 (.cons 7 2 .nil)) (.cons 6 1 (.cons 5 1 (.cons 7 2 .nil)))) (.cons 6 1 (.cons 3 1 (.cons 5 1 (.cons 7 2 .nil))))) (.cons 6 1 (.cons 1 1 (.cons 3 1 (.cons 5 1 (.cons 7 2 .nil))))))))) (by kernel_rfl) (by kernel_rfl) ?_) | (refine AWp.mixedT (id := 7) (.cons 0 0 (.cons 1 0 (.cons 3 0 (.alt 2 1 (.alt 4 1 (.cons 5 1 (.cons 6 2 .nil)) (.cons 5 1 (.cons 4 1 (.cons 6 2 .nil)))) (.cons 5 1 (.cons 2 1 (.cons 4 1 (.cons 6 2 .nil)))))))) (by kernel_rfl) (by kernel_rfl) ?_) | (refine AWp.mixedT (id := 24) (.cons 0 0 (.cons 2 0 (.cons 4 0 (.alt 1 1 (.alt 3 1 (.alt 5 1 (.cons 6 1 (.cons 7 2 .nil)) (.cons 6 1 (.cons 5 1 (.cons 7 2 .nil)))) (.cons 6 1 (.cons 3 1 (.cons 5 1 (.cons 7 2 .nil))))) (.cons 6 1 (.cons 1 1 (.cons 3 1 (.cons 5 1 (.cons 7 2 .nil))))))))) (by kernel_rfl) (by kernel_rfl) ?_) | (refine mopsT_step0 rfl rfl fun KC => ?_) | (refine mopsT_step1 rfl fun KC => ?_) | (refine mopsT_step2 rfl fun KC => ?_) | (refine mopsT_alt1 rfl (fun KC => ?_) ?_) | (refine mopsT_alt2 rfl (fun KC => ?_) ?_) | (refine KV.run _ ?_) | (refine KQ.run _ ?_) | (refine KT.run _ ?_) | (refine AWp.seqH fun KC => ?_) | (refine AWp.block ?_) | (refine AWp.region ?_) | (refine mops_step0 rfl rfl fun KC => ?_) | (refine mops_step1 rfl fun KC => ?_) | (refine mops_step2 rfl fun KC => ?_) | (refine AWp.ret ?_) | (refine AWp.skip ?_) | (refine AWp.exit ?_) | (refine aops_callH rfl fun kC => ?_) | (refine qops_callH rfl fun kC => ?_) | (refine AWp.condB ?_) | (simp only [bse, wk, tys, storeH_ptr, Nat.reduceEqDiff, ↓reduceIte, reduceCtorEq, Nat.reduceAdd, Nat.reduceLeDiff, Int.reduceBEq, Int.reduceLT, Int.reduceLE, Int.reduceEq, ne_eq, not_false_eq_true, Nat.reduceMul, voterE_val, voterE_sz, choiceE_val, choiceE_sz, refE_val, refE_sz, voterResultE_val, voterResultE_sz, voteE_val, voteE_sz, *]) | (refine condK_bool (fun hb => ?_) (fun hb => ?_) <;> ((try simp only [Bool.not_eq_true', Bool.not_eq_false'] at hb) <;> (try (have hbe := of_decide_eq_true hb)) <;> (try (have hbe := eq_of_beq hb)))) | (refine aops_partB ?_) | (refine qops_partB ?_))
  refine ACalls.ofP (heq) (.cons (hc.get 1 rfl).bor1 (.cons (.same _ (by first | exact islE_im _ _ | exact Enc.val_im _ _ | exact Im.flat _ rfl | (repeat' (first | exact Im.nilL | refine Im.consL ?_ ?_ | exact Im.flat _ rfl | exact islE_im _ _ | exact Enc.val_im _ _ | refine Im.aggL ?_ | refine Im.tupleL ?_ | refine Im.isl ?_)))) (.nil))) rfl ?_
  repeat' (first | (refine AWp.mixed (id := 10) [(0, 0), (1, 0), (2, 1), (3, 1), (4, 0)] (by kernel_rfl) (by kernel_rfl) ?_) | (refine AWp.mixedT (id := 5) (.cons 0 0 (.cons 2 0 (.cons 4 0 (.alt 1 1 (.alt 3 1 (.alt 5 1 (.cons 6 1 (.cons 7 2 .nil)) (.cons 6 1 (.cons 5 1 (.cons 7 2 .nil)))) (.cons 6 1 (.cons 3 1 (.cons 5 1 (.cons 7 2 .nil))))) (.cons 6 1 (.cons 1 1 (.cons 3 1 (.cons 5 1 (.cons 7 2 .nil))))))))) (by kernel_rfl) (by kernel_rfl) ?_) | (refine AWp.mixedT (id := 7) (.cons 0 0 (.cons 1 0 (.cons 3 0 (.alt 2 1 (.alt 4 1 (.cons 5 1 (.cons 6 2 .nil)) (.cons 5 1 (.cons 4 1 (.cons 6 2 .nil)))) (.cons 5 1 (.cons 2 1 (.cons 4 1 (.cons 6 2 .nil)))))))) (by kernel_rfl) (by kernel_rfl) ?_) | (refine AWp.mixedT (id := 24) (.cons 0 0 (.cons 2 0 (.cons 4 0 (.alt 1 1 (.alt 3 1 (.alt 5 1 (.cons 6 1 (.cons 7 2 .nil)) (.cons 6 1 (.cons 5 1 (.cons 7 2 .nil)))) (.cons 6 1 (.cons 3 1 (.cons 5 1 (.cons 7 2 .nil))))) (.cons 6 1 (.cons 1 1 (.cons 3 1 (.cons 5 1 (.cons 7 2 .nil))))))))) (by kernel_rfl) (by kernel_rfl) ?_) | (refine mopsT_step0 rfl rfl fun KC => ?_) | (refine mopsT_step1 rfl fun KC => ?_) | (refine mopsT_step2 rfl fun KC => ?_) | (refine mopsT_alt1 rfl (fun KC => ?_) ?_) | (refine mopsT_alt2 rfl (fun KC => ?_) ?_) | (refine KV.run _ ?_) | (refine KQ.run _ ?_) | (refine KT.run _ ?_) | (refine AWp.seqH fun KC => ?_) | (refine AWp.block ?_) | (refine AWp.region ?_) | (refine mops_step0 rfl rfl fun KC => ?_) | (refine mops_step1 rfl fun KC => ?_) | (refine mops_step2 rfl fun KC => ?_) | (refine AWp.ret ?_) | (refine AWp.skip ?_) | (refine AWp.exit ?_) | (refine aops_callH rfl fun kC => ?_) | (refine qops_callH rfl fun kC => ?_) | (refine AWp.condB ?_) | (simp only [bse, wk, tys, storeH_ptr, Nat.reduceEqDiff, ↓reduceIte, reduceCtorEq, Nat.reduceAdd, Nat.reduceLeDiff, Int.reduceBEq, Int.reduceLT, Int.reduceLE, Int.reduceEq, ne_eq, not_false_eq_true, Nat.reduceMul, voterE_val, voterE_sz, choiceE_val, choiceE_sz, refE_val, refE_sz, voterResultE_val, voterResultE_sz, voteE_val, voteE_sz, *]) | (refine condK_bool (fun hb => ?_) (fun hb => ?_) <;> ((try simp only [Bool.not_eq_true', Bool.not_eq_false'] at hb) <;> (try (have hbe := of_decide_eq_true hb)) <;> (try (have hbe := eq_of_beq hb)))) | (refine aops_partB ?_) | (refine qops_partB ?_))
  refine ACalls.get (mk_VoterResult w hR _ _ _ 1 (hc.get 1 rfl) (hc.getNd 1 rfl) (by omega) (by omega)) (by first | exact Nat.le_refl _ | exact Nat.zero_le _ | (simp only [List.length_append, List.length_cons, List.length_nil]; omega) | (simp only [List.length_set]; omega) | omega) (by first | exact Nat.le_refl _ | exact Nat.zero_le _ | (simp only [List.length_append, List.length_cons, List.length_nil]; omega) | (simp only [List.length_set]; omega) | omega) ?_
  rintro _ H7 ⟨rfl, hMg⟩
  obtain ⟨yg, hyg, hc⟩ := hc.mark 1 rfl hMg
  clear hMg
  simp only [List.set_cons_zero, List.set_cons_succ] at hc
  clear hb0 ha0 hb1 ha1 hb2 ha2 hb3 ha3 hb4 ha4
  have hb0 := hc.bx 0 rfl
  have hb1 := hc.bx 1 rfl
  have hb2 := hc.bx 2 rfl
  have hb3 := hc.bx 3 rfl
  have hb4 := hc.bx 4 rfl
  try simp only [List.length_nil, Nat.zero_add, Nat.reduceAdd] at hb0 hb1 hb2 hb3 hb4
  have ha0 := fun b : Blk => get_old (L := [b]) hb0
  have ha1 := fun b : Blk => get_old (L := [b]) hb1
  have ha2 := fun b : Blk => get_old (L := [b]) hb2
  have ha3 := fun b : Blk => get_old (L := [b]) hb3
  have ha4 := fun b : Blk => get_old (L := [b]) hb4
  repeat' (first | (refine AWp.mixed (id := 10) [(0, 0), (1, 0), (2, 1), (3, 1), (4, 0)] (by kernel_rfl) (by kernel_rfl) ?_) | (refine AWp.mixedT (id := 5) (.cons 0 0 (.cons 2 0 (.cons 4 0 (.alt 1 1 (.alt 3 1 (.alt 5 1 (.cons 6 1 (.cons 7 2 .nil)) (.cons 6 1 (.cons 5 1 (.cons 7 2 .nil)))) (.cons 6 1 (.cons 3 1 (.cons 5 1 (.cons 7 2 .nil))))) (.cons 6 1 (.cons 1 1 (.cons 3 1 (.cons 5 1 (.cons 7 2 .nil))))))))) (by kernel_rfl) (by kernel_rfl) ?_) | (refine AWp.mixedT (id := 7) (.cons 0 0 (.cons 1 0 (.cons 3 0 (.alt 2 1 (.alt 4 1 (.cons 5 1 (.cons 6 2 .nil)) (.cons 5 1 (.cons 4 1 (.cons 6 2 .nil)))) (.cons 5 1 (.cons 2 1 (.cons 4 1 (.cons 6 2 .nil)))))))) (by kernel_rfl) (by kernel_rfl) ?_) | (refine AWp.mixedT (id := 24) (.cons 0 0 (.cons 2 0 (.cons 4 0 (.alt 1 1 (.alt 3 1 (.alt 5 1 (.cons 6 1 (.cons 7 2 .nil)) (.cons 6 1 (.cons 5 1 (.cons 7 2 .nil)))) (.cons 6 1 (.cons 3 1 (.cons 5 1 (.cons 7 2 .nil))))) (.cons 6 1 (.cons 1 1 (.cons 3 1 (.cons 5 1 (.cons 7 2 .nil))))))))) (by kernel_rfl) (by kernel_rfl) ?_) | (refine mopsT_step0 rfl rfl fun KC => ?_) | (refine mopsT_step1 rfl fun KC => ?_) | (refine mopsT_step2 rfl fun KC => ?_) | (refine mopsT_alt1 rfl (fun KC => ?_) ?_) | (refine mopsT_alt2 rfl (fun KC => ?_) ?_) | (refine KV.run _ ?_) | (refine KQ.run _ ?_) | (refine KT.run _ ?_) | (refine AWp.seqH fun KC => ?_) | (refine AWp.block ?_) | (refine AWp.region ?_) | (refine mops_step0 rfl rfl fun KC => ?_) | (refine mops_step1 rfl fun KC => ?_) | (refine mops_step2 rfl fun KC => ?_) | (refine AWp.ret ?_) | (refine AWp.skip ?_) | (refine AWp.exit ?_) | (refine aops_callH rfl fun kC => ?_) | (refine qops_callH rfl fun kC => ?_) | (refine AWp.condB ?_) | (simp only [bse, wk, tys, storeH_ptr, Nat.reduceEqDiff, ↓reduceIte, reduceCtorEq, Nat.reduceAdd, Nat.reduceLeDiff, Int.reduceBEq, Int.reduceLT, Int.reduceLE, Int.reduceEq, ne_eq, not_false_eq_true, Nat.reduceMul, voterE_val, voterE_sz, choiceE_val, choiceE_sz, refE_val, refE_sz, voterResultE_val, voterResultE_sz, voteE_val, voteE_sz, *]) | (refine condK_bool (fun hb => ?_) (fun hb => ?_) <;> ((try simp only [Bool.not_eq_true', Bool.not_eq_false'] at hb) <;> (try (have hbe := of_decide_eq_true hb)) <;> (try (have hbe := eq_of_beq hb)))) | (refine aops_partB ?_) | (refine qops_partB ?_))
  refine ACalls.ofP (hyg) ((hc.get 1 rfl).bork) rfl ?_
  repeat' (first | (refine KV.run _ ?_) | (refine KQ.run _ ?_) | (refine KT.run _ ?_) | (refine AWp.seqH fun KC => ?_) | (refine AWp.block ?_) | (refine AWp.region ?_) | (refine mops_step0 rfl rfl fun KC => ?_) | (refine mops_step1 rfl fun KC => ?_) | (refine mops_step2 rfl fun KC => ?_) | (refine AWp.ret ?_) | (refine AWp.skip ?_) | (refine AWp.exit ?_) | (refine aops_callH rfl fun kC => ?_) | (refine qops_callH rfl fun kC => ?_) | (refine AWp.condB ?_) | (simp only [bse, wk, tys, storeH_ptr, Nat.reduceEqDiff, ↓reduceIte, reduceCtorEq, Nat.reduceAdd, Nat.reduceLeDiff, Int.reduceBEq, Int.reduceLT, Int.reduceLE, Int.reduceEq, ne_eq, not_false_eq_true, Nat.reduceMul, voterE_val, voterE_sz, choiceE_val, choiceE_sz, refE_val, refE_sz, voterResultE_val, voterResultE_sz, voteE_val, voteE_sz, *]) | (refine condK_bool (fun hb => ?_) (fun hb => ?_) <;> ((try simp only [Bool.not_eq_true', Bool.not_eq_false'] at hb) <;> (try (have hbe := of_decide_eq_true hb)) <;> (try (have hbe := eq_of_beq hb)))) | (refine aops_partB ?_) | (refine qops_partB ?_))
  refine AWp.mixedT (id := 24) (.cons 0 0 (.cons 2 0 (.cons 4 0 (.alt 1 1 (.alt 3 1 (.alt 5 1 (.cons 6 1 (.cons 7 2 .nil)) (.cons 6 1 (.cons 5 1 (.cons 7 2 .nil)))) (.cons 6 1 (.cons 3 1 (.cons 5 1 (.cons 7 2 .nil))))) (.cons 6 1 (.cons 1 1 (.cons 3 1 (.cons 5 1 (.cons 7 2 .nil))))))))) (by kernel_rfl) (by kernel_rfl) ?_
  refine mopsT_abs fun e0 he0 => ?_
  have r2 := congrFun he0 2
  have r3 := congrFun he0 3
  have r4 := congrFun he0 4
  try simp only [bse, wk, tys, storeH_ptr, Nat.reduceEqDiff, ↓reduceIte, reduceCtorEq, Nat.reduceAdd, Nat.reduceLeDiff, Int.reduceBEq, Int.reduceLT, Int.reduceLE, Int.reduceEq, ne_eq, not_false_eq_true, Nat.reduceMul, voterE_val, voterE_sz, choiceE_val, choiceE_sz, refE_val, refE_sz, voterResultE_val, voterResultE_sz, voteE_val, voteE_sz] at r2 r3 r4
  have he1 : Hid _ := he0
  clear he0
  apply mopsT_cut
  case h1 =>
    repeat' (first | (refine mopsT_step0 rfl rfl fun KC => ?_) | (refine mopsT_step1 rfl fun KC => ?_) | (refine mopsT_step2 rfl fun KC => ?_) | (refine mopsT_alt1 rfl (fun KC => ?_) ?_) | (refine mopsT_alt2 rfl (fun KC => ?_) ?_) | (refine ACalls.start ?_; first | (refine ACalls.ofJi (laws_toVoter v n_v) rfl ?_) | (refine ACalls.ofJi (laws_toRef r) rfl ?_) | (refine ACalls.ofJi (himp2) rfl ?_)) | (refine qcall_start ?_; first | (refine qcallFi (laws_toVoter v n_v) rfl ?_ ?_; (focus ((first | exact rfl | (simp [pureV, flatV, voterE_val, voterE_sz, choiceE_val, choiceE_sz, refE_val, refE_sz, voterResultE_val, voterResultE_sz, voteE_val, voteE_sz]; done))))) | (refine qcallFi (laws_toRef r) rfl ?_ ?_; (focus ((first | exact rfl | (simp [pureV, flatV, voterE_val, voterE_sz, choiceE_val, choiceE_sz, refE_val, refE_sz, voterResultE_val, voterResultE_sz, voteE_val, voteE_sz]; done))))) | (refine qcallFi (himp2) rfl ?_ ?_; (focus ((first | exact rfl | (simp [pureV, flatV, voterE_val, voterE_sz, choiceE_val, choiceE_sz, refE_val, refE_sz, voterResultE_val, voterResultE_sz, voteE_val, voteE_sz]; done)))))) | (refine KV.run _ ?_) | (refine KQ.run _ ?_) | (refine KT.run _ ?_) | (refine AWp.seqH fun KC => ?_) | (refine AWp.block ?_) | (refine AWp.region ?_) | (refine mops_step0 rfl rfl fun KC => ?_) | (refine mops_step1 rfl fun KC => ?_) | (refine mops_step2 rfl fun KC => ?_) | (refine AWp.ret ?_) | (refine AWp.skip ?_) | (refine AWp.exit ?_) | (refine aops_callH rfl fun kC => ?_) | (refine qops_callH rfl fun kC => ?_) | (refine AWp.condB ?_) | (simp only [bse, wk, tys, storeH_ptr, Nat.reduceEqDiff, ↓reduceIte, reduceCtorEq, Nat.reduceAdd, Nat.reduceLeDiff, Int.reduceBEq, Int.reduceLT, Int.reduceLE, Int.reduceEq, ne_eq, not_false_eq_true, Nat.reduceMul, voterE_val, voterE_sz, choiceE_val, choiceE_sz, refE_val, refE_sz, voterResultE_val, voterResultE_sz, voteE_val, voteE_sz, *]) | (refine condK_bool (fun hb => ?_) (fun hb => ?_) <;> ((try simp only [Bool.not_eq_true', Bool.not_eq_false'] at hb) <;> (try (have hbe := of_decide_eq_true hb)) <;> (try (have hbe := eq_of_beq hb)))) | (refine aops_partB ?_) | (refine qops_partB ?_))
    all_goals (first | exact ⟨rfl, rfl⟩ | (refine AtEH.mk (funext fun q => env_pt 14 q rfl fun hq14 => ?_) rfl; simp only [put, hq14, if_false]))
  have he2 := he1.out
  clear he1
  subst he2
  repeat' (first | (refine AWp.mixed (id := 10) [(0, 0), (1, 0), (2, 1), (3, 1), (4, 0)] (by kernel_rfl) (by kernel_rfl) ?_) | (refine AWp.mixedT (id := 5) (.cons 0 0 (.cons 2 0 (.cons 4 0 (.alt 1 1 (.alt 3 1 (.alt 5 1 (.cons 6 1 (.cons 7 2 .nil)) (.cons 6 1 (.cons 5 1 (.cons 7 2 .nil)))) (.cons 6 1 (.cons 3 1 (.cons 5 1 (.cons 7 2 .nil))))) (.cons 6 1 (.cons 1 1 (.cons 3 1 (.cons 5 1 (.cons 7 2 .nil))))))))) (by kernel_rfl) (by kernel_rfl) ?_) | (refine AWp.mixedT (id := 7) (.cons 0 0 (.cons 1 0 (.cons 3 0 (.alt 2 1 (.alt 4 1 (.cons 5 1 (.cons 6 2 .nil)) (.cons 5 1 (.cons 4 1 (.cons 6 2 .nil)))) (.cons 5 1 (.cons 2 1 (.cons 4 1 (.cons 6 2 .nil)))))))) (by kernel_rfl) (by kernel_rfl) ?_) | (refine AWp.mixedT (id := 24) (.cons 0 0 (.cons 2 0 (.cons 4 0 (.alt 1 1 (.alt 3 1 (.alt 5 1 (.cons 6 1 (.cons 7 2 .nil)) (.cons 6 1 (.cons 5 1 (.cons 7 2 .nil)))) (.cons 6 1 (.cons 3 1 (.cons 5 1 (.cons 7 2 .nil))))) (.cons 6 1 (.cons 1 1 (.cons 3 1 (.cons 5 1 (.cons 7 2 .nil))))))))) (by kernel_rfl) (by kernel_rfl) ?_) | (refine mopsT_step0 rfl rfl fun KC => ?_) | (refine mopsT_step1 rfl fun KC => ?_) | (refine mopsT_step2 rfl fun KC => ?_) | (refine mopsT_alt1 rfl (fun KC => ?_) ?_) | (refine mopsT_alt2 rfl (fun KC => ?_) ?_) | (refine KV.run _ ?_) | (refine KQ.run _ ?_) | (refine KT.run _ ?_) | (refine AWp.seqH fun KC => ?_) | (refine AWp.block ?_) | (refine AWp.region ?_) | (refine mops_step0 rfl rfl fun KC => ?_) | (refine mops_step1 rfl fun KC => ?_) | (refine mops_step2 rfl fun KC => ?_) | (refine AWp.ret ?_) | (refine AWp.skip ?_) | (refine AWp.exit ?_) | (refine aops_callH rfl fun kC => ?_) | (refine qops_callH rfl fun kC => ?_) | (refine AWp.condB ?_) | (simp only [bse, wk, tys, storeH_ptr, Nat.reduceEqDiff, ↓reduceIte, reduceCtorEq, Nat.reduceAdd, Nat.reduceLeDiff, Int.reduceBEq, Int.reduceLT, Int.reduceLE, Int.reduceEq, ne_eq, not_false_eq_true, Nat.reduceMul, voterE_val, voterE_sz, choiceE_val, choiceE_sz, refE_val, refE_sz, voterResultE_val, voterResultE_sz, voteE_val, voteE_sz, *]) | (refine condK_bool (fun hb => ?_) (fun hb => ?_) <;> ((try simp only [Bool.not_eq_true', Bool.not_eq_false'] at hb) <;> (try (have hbe := of_decide_eq_true hb)) <;> (try (have hbe := eq_of_beq hb)))) | (refine aops_partB ?_) | (refine qops_partB ?_))
  refine ACalls.absb hc ?_
  intro H8 hc
  clear hb0 ha0 hb1 ha1 hb2 ha2 hb3 ha3 hb4 ha4
  have hb0 := hc.bx 0 rfl
  have hb1 := hc.bx 1 rfl
  have hb2 := hc.bx 2 rfl
  have hb3 := hc.bx 3 rfl
  have hb4 := hc.bx 4 rfl
  have hb5 := hc.bx 5 rfl
  try simp only [List.length_nil, Nat.zero_add, Nat.reduceAdd] at hb0 hb1 hb2 hb3 hb4 hb5
  have ha0 := fun b : Blk => get_old (L := [b]) hb0
  have ha1 := fun b : Blk => get_old (L := [b]) hb1
  have ha2 := fun b : Blk => get_old (L := [b]) hb2
  have ha3 := fun b : Blk => get_old (L := [b]) hb3
  have ha4 := fun b : Blk => get_old (L := [b]) hb4
  have ha5 := fun b : Blk => get_old (L := [b]) hb5
  refine ACalls.ofP (heq) (.cons (.same _ (by first | exact islE_im _ _ | exact Enc.val_im _ _ | exact Im.flat _ rfl | (repeat' (first | exact Im.nilL | refine Im.consL ?_ ?_ | exact Im.flat _ rfl | exact islE_im _ _ | exact Enc.val_im _ _ | refine Im.aggL ?_ | refine Im.tupleL ?_ | refine Im.isl ?_)))) (.cons (.same _ (by first | exact islE_im _ _ | exact Enc.val_im _ _ | exact Im.flat _ rfl | (repeat' (first | exact Im.nilL | refine Im.consL ?_ ?_ | exact Im.flat _ rfl | exact islE_im _ _ | exact Enc.val_im _ _ | refine Im.aggL ?_ | refine Im.tupleL ?_ | refine Im.isl ?_)))) (.nil))) rfl ?_
  repeat' (first | (refine AWp.mixed (id := 10) [(0, 0), (1, 0), (2, 1), (3, 1), (4, 0)] (by kernel_rfl) (by kernel_rfl) ?_) | (refine AWp.mixedT (id := 5) (.cons 0 0 (.cons 2 0 (.cons 4 0 (.alt 1 1 (.alt 3 1 (.alt 5 1 (.cons 6 1 (.cons 7 2 .nil)) (.cons 6 1 (.cons 5 1 (.cons 7 2 .nil)))) (.cons 6 1 (.cons 3 1 (.cons 5 1 (.cons 7 2 .nil))))) (.cons 6 1 (.cons 1 1 (.cons 3 1 (.cons 5 1 (.cons 7 2 .nil))))))))) (by kernel_rfl) (by kernel_rfl) ?_) | (refine AWp.mixedT (id := 7) (.cons 0 0 (.cons 1 0 (.cons 3 0 (.alt 2 1 (.alt 4 1 (.cons 5 1 (.cons 6 2 .nil)) (.cons 5 1 (.cons 4 1 (.cons 6 2 .nil)))) (.cons 5 1 (.cons 2 1 (.cons 4 1 (.cons 6 2 .nil)))))))) (by kernel_rfl) (by kernel_rfl) ?_) | (refine AWp.mixedT (id := 24) (.cons 0 0 (.cons 2 0 (.cons 4 0 (.alt 1 1 (.alt 3 1 (.alt 5 1 (.cons 6 1 (.cons 7 2 .nil)) (.cons 6 1 (.cons 5 1 (.cons 7 2 .nil)))) (.cons 6 1 (.cons 3 1 (.cons 5 1 (.cons 7 2 .nil))))) (.cons 6 1 (.cons 1 1 (.cons 3 1 (.cons 5 1 (.cons 7 2 .nil))))))))) (by kernel_rfl) (by kernel_rfl) ?_) | (refine mopsT_step0 rfl rfl fun KC => ?_) | (refine mopsT_step1 rfl fun KC => ?_) | (refine mopsT_step2 rfl fun KC => ?_) | (refine mopsT_alt1 rfl (fun KC => ?_) ?_) | (refine mopsT_alt2 rfl (fun KC => ?_) ?_) | (refine KV.run _ ?_) | (refine KQ.run _ ?_) | (refine KT.run _ ?_) | (refine AWp.seqH fun KC => ?_) | (refine AWp.block ?_) | (refine AWp.region ?_) | (refine mops_step0 rfl rfl fun KC => ?_) | (refine mops_step1 rfl fun KC => ?_) | (refine mops_step2 rfl fun KC => ?_) | (refine AWp.ret ?_) | (refine AWp.skip ?_) | (refine AWp.exit ?_) | (refine aops_callH rfl fun kC => ?_) | (refine qops_callH rfl fun kC => ?_) | (refine AWp.condB ?_) | (simp only [bse, wk, tys, storeH_ptr, Nat.reduceEqDiff, ↓reduceIte, reduceCtorEq, Nat.reduceAdd, Nat.reduceLeDiff, Int.reduceBEq, Int.reduceLT, Int.reduceLE, Int.reduceEq, ne_eq, not_false_eq_true, Nat.reduceMul, voterE_val, voterE_sz, choiceE_val, choiceE_sz, refE_val, refE_sz, voterResultE_val, voterResultE_sz, voteE_val, voteE_sz, *]) | (refine condK_bool (fun hb => ?_) (fun hb => ?_) <;> ((try simp only [Bool.not_eq_true', Bool.not_eq_false'] at hb) <;> (try (have hbe := of_decide_eq_true hb)) <;> (try (have hbe := eq_of_beq hb)))) | (refine aops_partB ?_) | (refine qops_partB ?_))
  refine ACalls.ofP (hyg) ((hc.get 1 rfl).bork) rfl ?_
  repeat' (first | (refine AWp.mixed (id := 10) [(0, 0), (1, 0), (2, 1), (3, 1), (4, 0)] (by kernel_rfl) (by kernel_rfl) ?_) | (refine AWp.mixedT (id := 5) (.cons 0 0 (.cons 2 0 (.cons 4 0 (.alt 1 1 (.alt 3 1 (.alt 5 1 (.cons 6 1 (.cons 7 2 .nil)) (.cons 6 1 (.cons 5 1 (.cons 7 2 .nil)))) (.cons 6 1 (.cons 3 1 (.cons 5 1 (.cons 7 2 .nil))))) (.cons 6 1 (.cons 1 1 (.cons 3 1 (.cons 5 1 (.cons 7 2 .nil))))))))) (by kernel_rfl) (by kernel_rfl) ?_) | (refine AWp.mixedT (id := 7) (.cons 0 0 (.cons 1 0 (.cons 3 0 (.alt 2 1 (.alt 4 1 (.cons 5 1 (.cons 6 2 .nil)) (.cons 5 1 (.cons 4 1 (.cons 6 2 .nil)))) (.cons 5 1 (.cons 2 1 (.cons 4 1 (.cons 6 2 .nil)))))))) (by kernel_rfl) (by kernel_rfl) ?_) | (refine AWp.mixedT (id := 24) (.cons 0 0 (.cons 2 0 (.cons 4 0 (.alt 1 1 (.alt 3 1 (.alt 5 1 (.cons 6 1 (.cons 7 2 .nil)) (.cons 6 1 (.cons 5 1 (.cons 7 2 .nil)))) (.cons 6 1 (.cons 3 1 (.cons 5 1 (.cons 7 2 .nil))))) (.cons 6 1 (.cons 1 1 (.cons 3 1 (.cons 5 1 (.cons 7 2 .nil))))))))) (by kernel_rfl) (by kernel_rfl) ?_) | (refine mopsT_step0 rfl rfl fun KC => ?_) | (refine mopsT_step1 rfl fun KC => ?_) | (refine mopsT_step2 rfl fun KC => ?_) | (refine mopsT_alt1 rfl (fun KC => ?_) ?_) | (refine mopsT_alt2 rfl (fun KC => ?_) ?_) | (refine KV.run _ ?_) | (refine KQ.run _ ?_) | (refine KT.run _ ?_) | (refine AWp.seqH fun KC => ?_) | (refine AWp.block ?_) | (refine AWp.region ?_) | (refine mops_step0 rfl rfl fun KC => ?_) | (refine mops_step1 rfl fun KC => ?_) | (refine mops_step2 rfl fun KC => ?_) | (refine AWp.ret ?_) | (refine AWp.skip ?_) | (refine AWp.exit ?_) | (refine aops_callH rfl fun kC => ?_) | (refine qops_callH rfl fun kC => ?_) | (refine AWp.condB ?_) | (simp only [bse, wk, tys, storeH_ptr, Nat.reduceEqDiff, ↓reduceIte, reduceCtorEq, Nat.reduceAdd, Nat.reduceLeDiff, Int.reduceBEq, Int.reduceLT, Int.reduceLE, Int.reduceEq, ne_eq, not_false_eq_true, Nat.reduceMul, voterE_val, voterE_sz, choiceE_val, choiceE_sz, refE_val, refE_sz, voterResultE_val, voterResultE_sz, voteE_val, voteE_sz, *]) | (refine condK_bool (fun hb => ?_) (fun hb => ?_) <;> ((try simp only [Bool.not_eq_true', Bool.not_eq_false'] at hb) <;> (try (have hbe := of_decide_eq_true hb)) <;> (try (have hbe := eq_of_beq hb)))) | (refine aops_partB ?_) | (refine qops_partB ?_))
end Go.BM
