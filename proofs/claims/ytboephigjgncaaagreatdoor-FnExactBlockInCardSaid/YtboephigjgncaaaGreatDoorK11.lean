/- FnExactBlockIn over data. -/
import Derived.Test.YtboephigjgncaaaGreatDoorK7
import Derived.Test.YtboephigjgncaaaGreatDoorK10
import Derived.Test.YtboephigjgncaaaGreatDoorU4
import Derived.Test.YtboephigjgncaaaGreatDoorU9
set_option linter.unusedVariables false
set_option linter.unusedSimpArgs false
set_option maxRecDepth 100000
set_option maxHeartbeats 4000000
namespace Go.BM
open Go.Proofs Go.RowKit
attribute [local irreducible] ACalls AWp aops qops optK optP cK gateA condK mops qcallK PCalls loadV fldV idxV lenV slV storeH binS
theorem readB_small (t : List UInt8) : (readB t).1.txs.length ≤ 6 := by
  have key : ∀ b : TBlock, (if blockFault b = 0 ∧ blockT b = t then (b, true) else (blk0, false)).1.txs.length ≤ 6 := fun b => by
    by_cases h : blockFault b = 0 ∧ blockT b = t
    · rw [if_pos h]
      exact (bf_bounds h.1).2.2.2.1
    · rw [if_neg h]; simp [blk0]
  unfold readB
  split
  · by_cases h : 300 < t.length
    · rw [if_pos h]; simp [blk0]
    · rw [if_neg h]
      exact key _
  · simp [blk0]
theorem nR_BlockIn (l : TLedger) (id : Int) (h : nLedger l ≤ 1048576) : nBlockResult (blockInF l id) ≤ 1048576 := by
  unfold nBlockResult nBlock blockInF blkIn
  by_cases h1 : (!(ledgerFault l == 0)) = true
  · rw [if_pos h1]; simp [blk0]
  · rw [if_neg h1]
    dsimp only
    by_cases h2 : (!inB id 1 l.texts.length) = true
    · rw [if_pos h2]; simp [blk0]
    · rw [if_neg h2]
      by_cases h3 : (readB (getS l.texts id).data.toList).2 = true
      · rw [if_pos h3]
        have := readB_small (getS l.texts id).data.toList
        dsimp only
        omega
      · rw [if_neg h3]; simp [blk0]
theorem law_BlockIn (l : TLedger) (id : Int) (l_l : limLedger l) : PCalls Tryz.prog 3 [ledgerE.val l, .int .i64 id] (.bool true) := by
  by_cases h_l : szI (nLedger l) (1048576) < 0
  · refine PCalls.flat rfl ?_; refine ACalls.enter (n := 74) (rs := [.tmp 4]) Tryz.func3 rfl rfl rfl (by kernel_rfl) (by kernel_rfl) (by kernel_rfl) (Nat.le_of_ble_eq_true rfl) ?_
    repeat' (first | (refine AWp.mixed (id := 10) [(0, 0), (1, 0), (2, 1), (3, 1), (4, 0)] (by kernel_rfl) (by kernel_rfl) ?_) | (refine ACalls.start ?_; first | (refine ACalls.ofJi (laws_szLedger l (1048576) (by omega) (by omega) l_l) rfl ?_)) | (refine qcall_start ?_; first | (refine qcallFi (laws_szLedger l (1048576) (by omega) (by omega) l_l) rfl ?_ ?_; (focus ((first | exact rfl | (simp [pureV, flatV, ledgerE_val, ledgerE_sz, signE_val, signE_sz, blockResultE_val, blockResultE_sz, blockE_val, blockE_sz]; done)))))) | (refine KV.run _ ?_) | (refine KQ.run _ ?_) | (refine KT.run _ ?_) | (refine AWp.seqH fun KC => ?_) | (refine AWp.block ?_) | (refine AWp.region ?_) | (refine mops_step0 rfl rfl fun KC => ?_) | (refine mops_step1 rfl fun KC => ?_) | (refine mops_step2 rfl fun KC => ?_) | (refine AWp.ret ?_) | (refine AWp.skip ?_) | (refine AWp.exit ?_) | (refine aops_callH rfl fun kC => ?_) | (refine qops_callH rfl fun kC => ?_) | (refine AWp.condB ?_) | (simp only [bse, wk, tys, storeH_ptr, Nat.reduceEqDiff, ↓reduceIte, reduceCtorEq, Nat.reduceAdd, Nat.reduceLeDiff, Int.reduceBEq, Int.reduceLT, Int.reduceLE, Int.reduceEq, ne_eq, not_false_eq_true, Nat.reduceMul, ledgerE_val, ledgerE_sz, signE_val, signE_sz, blockResultE_val, blockResultE_sz, blockE_val, blockE_sz, *]) | (refine condK_bool (fun hb => ?_) (fun hb => ?_) <;> ((try simp only [Bool.not_eq_true', Bool.not_eq_false'] at hb) <;> (try (have hbe := of_decide_eq_true hb)) <;> (try (have hbe := eq_of_beq hb)))) | (refine aops_partB ?_) | (refine qops_partB ?_))
  have n_l : nLedger l ≤ 1048576 := by unfold szI at *; (repeat' split at *) <;> omega
  have hR := nR_BlockIn l id n_l
  obtain ⟨w, hw⟩ : ∃ w, w = blockInF l id := ⟨_, rfl⟩
  have hspec := spec_BlockIn l id n_l
  have himpl := impl_BlockIn l id n_l
  rw [← hw] at hR hspec himpl
  clear hw
  have hm_l : mLedger l ≤ 100000000 := by have := nStrS_len l.texts; first | omega | (simp only [mBlockResult, nBlockResult, mBlock, nBlock, mLedger, nLedger] at *; omega)
  have hmR : mBlockResult w ≤ 100000000 := by simp only [mBlockResult, nBlockResult, mBlock, nBlock, mLedger, nLedger] at hR ⊢; omega
  have hqR : ¬ (1 : Int) + ((mBlockResult w : Nat) : Int) < 0 := by omega
  have heq := laws_eqBlockResult w hR
  simp only [blockResultE_val] at heq hspec himpl
  have himp2 := himpl.p
  refine PCalls.flat rfl ?_; refine ACalls.enter (n := 74) (rs := [.tmp 4]) Tryz.func3 rfl rfl rfl (by kernel_rfl) (by kernel_rfl) (by kernel_rfl) (Nat.le_of_ble_eq_true rfl) ?_
  repeat' (first | (refine AWp.mixed (id := 10) [(0, 0), (1, 0), (2, 1), (3, 1), (4, 0)] (by kernel_rfl) (by kernel_rfl) ?_) | (refine ACalls.start ?_; first | (refine ACalls.ofJi (laws_szLedger l (1048576) (by omega) (by omega) l_l) rfl ?_) | (refine ACalls.ofJi (laws_toLedger l n_l) rfl ?_)) | (refine qcall_start ?_; first | (refine qcallFi (laws_szLedger l (1048576) (by omega) (by omega) l_l) rfl ?_ ?_; (focus ((first | exact rfl | (simp [pureV, flatV, ledgerE_val, ledgerE_sz, signE_val, signE_sz, blockResultE_val, blockResultE_sz, blockE_val, blockE_sz]; done))))) | (refine qcallFi (laws_toLedger l n_l) rfl ?_ ?_; (focus ((first | exact rfl | (simp [pureV, flatV, ledgerE_val, ledgerE_sz, signE_val, signE_sz, blockResultE_val, blockResultE_sz, blockE_val, blockE_sz]; done)))))) | (refine KV.run _ ?_) | (refine KQ.run _ ?_) | (refine KT.run _ ?_) | (refine AWp.seqH fun KC => ?_) | (refine AWp.block ?_) | (refine AWp.region ?_) | (refine mops_step0 rfl rfl fun KC => ?_) | (refine mops_step1 rfl fun KC => ?_) | (refine mops_step2 rfl fun KC => ?_) | (refine AWp.ret ?_) | (refine AWp.skip ?_) | (refine AWp.exit ?_) | (refine aops_callH rfl fun kC => ?_) | (refine qops_callH rfl fun kC => ?_) | (refine AWp.condB ?_) | (simp only [bse, wk, tys, storeH_ptr, Nat.reduceEqDiff, ↓reduceIte, reduceCtorEq, Nat.reduceAdd, Nat.reduceLeDiff, Int.reduceBEq, Int.reduceLT, Int.reduceLE, Int.reduceEq, ne_eq, not_false_eq_true, Nat.reduceMul, ledgerE_val, ledgerE_sz, signE_val, signE_sz, blockResultE_val, blockResultE_sz, blockE_val, blockE_sz, *]) | (refine condK_bool (fun hb => ?_) (fun hb => ?_) <;> ((try simp only [Bool.not_eq_true', Bool.not_eq_false'] at hb) <;> (try (have hbe := of_decide_eq_true hb)) <;> (try (have hbe := eq_of_beq hb)))) | (refine aops_partB ?_) | (refine qops_partB ?_))
  refine ACalls.ofJ hspec rfl ?_ ?_ ?_
  · (repeat' (first | exact Im.nilL | refine Im.consL ?_ ?_ | refine Im.appL ?_ ?_ | exact Im.flat _ rfl | exact islE_im _ _ | exact Enc.val_im _ _ | assumption | refine Im.aggL ?_ | refine Im.tupleL ?_ | refine Im.funcL ?_ | refine Im.funcA ?_ | refine Im.isl ?_ | refine Im.ip ?_)); done
  · (repeat' (first | exact Im.nilL | refine Im.consL ?_ ?_ | refine Im.appL ?_ ?_ | exact Im.flat _ rfl | exact islE_im _ _ | exact Enc.val_im _ _ | assumption | refine Im.aggL ?_ | refine Im.tupleL ?_ | refine Im.funcL ?_ | refine Im.funcA ?_ | refine Im.isl ?_ | refine Im.ip ?_)); done
  clear hspec
  repeat' (first | (refine AWp.mixed (id := 10) [(0, 0), (1, 0), (2, 1), (3, 1), (4, 0)] (by kernel_rfl) (by kernel_rfl) ?_) | (refine KV.run _ ?_) | (refine KQ.run _ ?_) | (refine KT.run _ ?_) | (refine AWp.seqH fun KC => ?_) | (refine AWp.block ?_) | (refine AWp.region ?_) | (refine mops_step0 rfl rfl fun KC => ?_) | (refine mops_step1 rfl fun KC => ?_) | (refine mops_step2 rfl fun KC => ?_) | (refine AWp.ret ?_) | (refine AWp.skip ?_) | (refine AWp.exit ?_) | (refine aops_callH rfl fun kC => ?_) | (refine qops_callH rfl fun kC => ?_) | (refine AWp.condB ?_) | (simp only [bse, wk, tys, storeH_ptr, Nat.reduceEqDiff, ↓reduceIte, reduceCtorEq, Nat.reduceAdd, Nat.reduceLeDiff, Int.reduceBEq, Int.reduceLT, Int.reduceLE, Int.reduceEq, ne_eq, not_false_eq_true, Nat.reduceMul, ledgerE_val, ledgerE_sz, signE_val, signE_sz, blockResultE_val, blockResultE_sz, blockE_val, blockE_sz, *]) | (refine condK_bool (fun hb => ?_) (fun hb => ?_) <;> ((try simp only [Bool.not_eq_true', Bool.not_eq_false'] at hb) <;> (try (have hbe := of_decide_eq_true hb)) <;> (try (have hbe := eq_of_beq hb)))) | (refine aops_partB ?_) | (refine qops_partB ?_))
  refine ACalls.absL ?_
  intro H1 hc
  have hb0 := hc.bx 0 rfl
  have hb1 := hc.bx 1 rfl
  try simp only [List.length_nil, Nat.zero_add, Nat.reduceAdd] at hb0 hb1
  have ha0 := fun b : Blk => get_old (L := [b]) hb0
  have ha1 := fun b : Blk => get_old (L := [b]) hb1
  repeat' (first | (refine AWp.mixed (id := 10) [(0, 0), (1, 0), (2, 1), (3, 1), (4, 0)] (by kernel_rfl) (by kernel_rfl) ?_) | (refine KV.run _ ?_) | (refine KQ.run _ ?_) | (refine KT.run _ ?_) | (refine AWp.seqH fun KC => ?_) | (refine AWp.block ?_) | (refine AWp.region ?_) | (refine mops_step0 rfl rfl fun KC => ?_) | (refine mops_step1 rfl fun KC => ?_) | (refine mops_step2 rfl fun KC => ?_) | (refine AWp.ret ?_) | (refine AWp.skip ?_) | (refine AWp.exit ?_) | (refine aops_callH rfl fun kC => ?_) | (refine qops_callH rfl fun kC => ?_) | (refine AWp.condB ?_) | (simp only [bse, wk, tys, storeH_ptr, Nat.reduceEqDiff, ↓reduceIte, reduceCtorEq, Nat.reduceAdd, Nat.reduceLeDiff, Int.reduceBEq, Int.reduceLT, Int.reduceLE, Int.reduceEq, ne_eq, not_false_eq_true, Nat.reduceMul, ledgerE_val, ledgerE_sz, signE_val, signE_sz, blockResultE_val, blockResultE_sz, blockE_val, blockE_sz, *]) | (refine condK_bool (fun hb => ?_) (fun hb => ?_) <;> ((try simp only [Bool.not_eq_true', Bool.not_eq_false'] at hb) <;> (try (have hbe := of_decide_eq_true hb)) <;> (try (have hbe := eq_of_beq hb)))) | (refine aops_partB ?_) | (refine qops_partB ?_))
  refine ACalls.get (NCalls.use (own_toLedger l n_l) (BorL.same (by repeat' (first | exact Im.nilL | refine Im.consL ?_ ?_ | refine Im.appL ?_ ?_ | exact Im.flat _ rfl | exact islE_im _ _ | exact Enc.val_im _ _ | assumption | refine Im.aggL ?_ | refine Im.funcL ?_ | refine Im.funcA ?_ | refine Im.isl ?_ | refine Im.ip ?_)))) (by first | exact Nat.le_refl _ | exact Nat.zero_le _ | (simp only [List.length_append, List.length_cons, List.length_nil]; omega) | (simp only [List.length_set]; omega) | omega) (by first | exact Nat.le_refl _ | exact Nat.zero_le _ | (simp only [List.length_append, List.length_cons, List.length_nil]; omega) | (simp only [List.length_set]; omega) | omega) ?_
  rintro d0 H2 ⟨S0, hN0⟩
  have px0 := hN0.own
  rw [ledgerE_val] at px0
  obtain ⟨xsx0, rfl, ox0⟩ := OwnL.aggI px0
  clear px0
  obtain ⟨d_x0_0, m_x0_0, S_x0_0, R_x0_0, rfl, rfl, p_x0_0, ox0_n1⟩ := OwnL.consI ox0
  obtain ⟨a_x0_0, n_x0_0, v_x0_0, rfl⟩ := OwnL.slD p_x0_0
  obtain ⟨d_x0_1, m_x0_1, S_x0_1, R_x0_1, rfl, rfl, p_x0_1, ox0_n2⟩ := OwnL.consI ox0_n1
  obtain ⟨a_x0_1, n_x0_1, v_x0_1, rfl⟩ := OwnL.slD p_x0_1
  obtain ⟨rfl, rfl⟩ := OwnL.nilI ox0_n2
  clear ox0_n1 ox0_n2
  have hc := hc.new hN0
  clear hN0
  simp only [List.nil_append, List.cons_append] at hc
  clear hb0 ha0 hb1 ha1
  have hb0 := hc.bx 0 rfl
  have hb1 := hc.bx 1 rfl
  try simp only [List.length_nil, Nat.zero_add, Nat.reduceAdd] at hb0 hb1
  have ha0 := fun b : Blk => get_old (L := [b]) hb0
  have ha1 := fun b : Blk => get_old (L := [b]) hb1
  repeat' (first | (refine AWp.mixed (id := 10) [(0, 0), (1, 0), (2, 1), (3, 1), (4, 0)] (by kernel_rfl) (by kernel_rfl) ?_) | (refine KV.run _ ?_) | (refine KQ.run _ ?_) | (refine KT.run _ ?_) | (refine AWp.seqH fun KC => ?_) | (refine AWp.block ?_) | (refine AWp.region ?_) | (refine mops_step0 rfl rfl fun KC => ?_) | (refine mops_step1 rfl fun KC => ?_) | (refine mops_step2 rfl fun KC => ?_) | (refine AWp.ret ?_) | (refine AWp.skip ?_) | (refine AWp.exit ?_) | (refine aops_callH rfl fun kC => ?_) | (refine qops_callH rfl fun kC => ?_) | (refine AWp.condB ?_) | (simp only [bse, wk, tys, storeH_ptr, Nat.reduceEqDiff, ↓reduceIte, reduceCtorEq, Nat.reduceAdd, Nat.reduceLeDiff, Int.reduceBEq, Int.reduceLT, Int.reduceLE, Int.reduceEq, ne_eq, not_false_eq_true, Nat.reduceMul, ledgerE_val, ledgerE_sz, signE_val, signE_sz, blockResultE_val, blockResultE_sz, blockE_val, blockE_sz, *]) | (refine condK_bool (fun hb => ?_) (fun hb => ?_) <;> ((try simp only [Bool.not_eq_true', Bool.not_eq_false'] at hb) <;> (try (have hbe := of_decide_eq_true hb)) <;> (try (have hbe := eq_of_beq hb)))) | (refine aops_partB ?_) | (refine qops_partB ?_))
  refine ACalls.absb hc ?_
  intro H3 hc
  clear hb0 ha0 hb1 ha1
  have hb0 := hc.bx 0 rfl
  have hb1 := hc.bx 1 rfl
  have hb2 := hc.bx 2 rfl
  try simp only [List.length_nil, Nat.zero_add, Nat.reduceAdd] at hb0 hb1 hb2
  have ha0 := fun b : Blk => get_old (L := [b]) hb0
  have ha1 := fun b : Blk => get_old (L := [b]) hb1
  have ha2 := fun b : Blk => get_old (L := [b]) hb2
  refine ACalls.get (NCalls.use himpl (.cons (hc.get 0 rfl).bor1 (.cons (.same _ (by first | exact islE_im _ _ | exact Enc.val_im _ _ | exact Im.flat _ rfl | (repeat' (first | exact Im.nilL | refine Im.consL ?_ ?_ | exact Im.flat _ rfl | exact islE_im _ _ | exact Enc.val_im _ _ | refine Im.aggL ?_ | refine Im.tupleL ?_ | refine Im.isl ?_)))) (.nil)))) (by first | exact Nat.le_refl _ | exact Nat.zero_le _ | (simp only [List.length_append, List.length_cons, List.length_nil]; omega) | (simp only [List.length_set]; omega) | omega) (by first | exact Nat.le_refl _ | exact Nat.zero_le _ | (simp only [List.length_append, List.length_cons, List.length_nil]; omega) | (simp only [List.length_set]; omega) | omega) ?_
  rintro dg H4 ⟨Sg, hNg⟩
  have og0 := hNg.own
  obtain ⟨xg, rfl, og⟩ := OwnL.aggI og0
  clear og0
  obtain ⟨m_g_0, rfl, og_n1⟩ := OwnL.flatI og rfl
  obtain ⟨m_g_1, rfl, og_n2⟩ := OwnL.flatI og_n1 rfl
  obtain ⟨m_g_2, rfl, og_n3⟩ := OwnL.flatI og_n2 rfl
  obtain ⟨m_g_3, rfl, og_n4⟩ := OwnL.flatI og_n3 rfl
  obtain ⟨d_g_4, m_g_4, S_g_4, R_g_4, rfl, rfl, p_g_4, og_n5⟩ := OwnL.consI og_n4
  obtain ⟨a_g_4, n_g_4, v_g_4, rfl⟩ := OwnL.slD p_g_4
  obtain ⟨rfl, rfl⟩ := OwnL.nilI og_n5
  clear og_n1 og_n2 og_n3 og_n4 og_n5
  have hc := hc.new hNg
  clear hNg
  simp only [List.nil_append, List.cons_append] at hc
  clear hb0 ha0 hb1 ha1 hb2 ha2
  have hb0 := hc.bx 0 rfl
  have hb1 := hc.bx 1 rfl
  have hb2 := hc.bx 2 rfl
  try simp only [List.length_nil, Nat.zero_add, Nat.reduceAdd] at hb0 hb1 hb2
  have ha0 := fun b : Blk => get_old (L := [b]) hb0
  have ha1 := fun b : Blk => get_old (L := [b]) hb1
  have ha2 := fun b : Blk => get_old (L := [b]) hb2
  repeat' (first | (refine AWp.mixed (id := 10) [(0, 0), (1, 0), (2, 1), (3, 1), (4, 0)] (by kernel_rfl) (by kernel_rfl) ?_) | (refine KV.run _ ?_) | (refine KQ.run _ ?_) | (refine KT.run _ ?_) | (refine AWp.seqH fun KC => ?_) | (refine AWp.block ?_) | (refine AWp.region ?_) | (refine mops_step0 rfl rfl fun KC => ?_) | (refine mops_step1 rfl fun KC => ?_) | (refine mops_step2 rfl fun KC => ?_) | (refine AWp.ret ?_) | (refine AWp.skip ?_) | (refine AWp.exit ?_) | (refine aops_callH rfl fun kC => ?_) | (refine qops_callH rfl fun kC => ?_) | (refine AWp.condB ?_) | (simp only [bse, wk, tys, storeH_ptr, Nat.reduceEqDiff, ↓reduceIte, reduceCtorEq, Nat.reduceAdd, Nat.reduceLeDiff, Int.reduceBEq, Int.reduceLT, Int.reduceLE, Int.reduceEq, ne_eq, not_false_eq_true, Nat.reduceMul, ledgerE_val, ledgerE_sz, signE_val, signE_sz, blockResultE_val, blockResultE_sz, blockE_val, blockE_sz, *]) | (refine condK_bool (fun hb => ?_) (fun hb => ?_) <;> ((try simp only [Bool.not_eq_true', Bool.not_eq_false'] at hb) <;> (try (have hbe := of_decide_eq_true hb)) <;> (try (have hbe := eq_of_beq hb)))) | (refine aops_partB ?_) | (refine qops_partB ?_))
  refine ACalls.absb hc ?_
  intro H5 hc
  clear hb0 ha0 hb1 ha1 hb2 ha2
  have hb0 := hc.bx 0 rfl
  have hb1 := hc.bx 1 rfl
  have hb2 := hc.bx 2 rfl
  have hb3 := hc.bx 3 rfl
  try simp only [List.length_nil, Nat.zero_add, Nat.reduceAdd] at hb0 hb1 hb2 hb3
  have ha0 := fun b : Blk => get_old (L := [b]) hb0
  have ha1 := fun b : Blk => get_old (L := [b]) hb1
  have ha2 := fun b : Blk => get_old (L := [b]) hb2
  have ha3 := fun b : Blk => get_old (L := [b]) hb3
  refine ACalls.ofP (heq) (.cons (hc.get 1 rfl).bor1 (.cons (.same _ (by first | exact islE_im _ _ | exact Enc.val_im _ _ | exact Im.flat _ rfl | (repeat' (first | exact Im.nilL | refine Im.consL ?_ ?_ | exact Im.flat _ rfl | exact islE_im _ _ | exact Enc.val_im _ _ | refine Im.aggL ?_ | refine Im.tupleL ?_ | refine Im.isl ?_)))) (.nil))) rfl ?_
  repeat' (first | (refine AWp.mixed (id := 10) [(0, 0), (1, 0), (2, 1), (3, 1), (4, 0)] (by kernel_rfl) (by kernel_rfl) ?_) | (refine ACalls.start ?_; first | (refine ACalls.ofJi (laws_toLedger l n_l) rfl ?_)) | (refine qcall_start ?_; first | (refine qcallFi (laws_toLedger l n_l) rfl ?_ ?_; (focus ((first | exact rfl | (simp [pureV, flatV, ledgerE_val, ledgerE_sz, signE_val, signE_sz, blockResultE_val, blockResultE_sz, blockE_val, blockE_sz]; done)))))) | (refine KV.run _ ?_) | (refine KQ.run _ ?_) | (refine KT.run _ ?_) | (refine AWp.seqH fun KC => ?_) | (refine AWp.block ?_) | (refine AWp.region ?_) | (refine mops_step0 rfl rfl fun KC => ?_) | (refine mops_step1 rfl fun KC => ?_) | (refine mops_step2 rfl fun KC => ?_) | (refine AWp.ret ?_) | (refine AWp.skip ?_) | (refine AWp.exit ?_) | (refine aops_callH rfl fun kC => ?_) | (refine qops_callH rfl fun kC => ?_) | (refine AWp.condB ?_) | (simp only [bse, wk, tys, storeH_ptr, Nat.reduceEqDiff, ↓reduceIte, reduceCtorEq, Nat.reduceAdd, Nat.reduceLeDiff, Int.reduceBEq, Int.reduceLT, Int.reduceLE, Int.reduceEq, ne_eq, not_false_eq_true, Nat.reduceMul, ledgerE_val, ledgerE_sz, signE_val, signE_sz, blockResultE_val, blockResultE_sz, blockE_val, blockE_sz, *]) | (refine condK_bool (fun hb => ?_) (fun hb => ?_) <;> ((try simp only [Bool.not_eq_true', Bool.not_eq_false'] at hb) <;> (try (have hbe := of_decide_eq_true hb)) <;> (try (have hbe := eq_of_beq hb)))) | (refine aops_partB ?_) | (refine qops_partB ?_))
  refine ACalls.ofP (laws_eqLedger l n_l) (.cons (hc.get 0 rfl).bor1 (.cons (.same _ (by first | exact islE_im _ _ | exact Enc.val_im _ _ | exact Im.flat _ rfl | (repeat' (first | exact Im.nilL | refine Im.consL ?_ ?_ | exact Im.flat _ rfl | exact islE_im _ _ | exact Enc.val_im _ _ | refine Im.aggL ?_ | refine Im.tupleL ?_ | refine Im.isl ?_)))) (.nil))) rfl ?_
  repeat' (first | (refine AWp.mixed (id := 10) [(0, 0), (1, 0), (2, 1), (3, 1), (4, 0)] (by kernel_rfl) (by kernel_rfl) ?_) | (refine KV.run _ ?_) | (refine KQ.run _ ?_) | (refine KT.run _ ?_) | (refine AWp.seqH fun KC => ?_) | (refine AWp.block ?_) | (refine AWp.region ?_) | (refine mops_step0 rfl rfl fun KC => ?_) | (refine mops_step1 rfl fun KC => ?_) | (refine mops_step2 rfl fun KC => ?_) | (refine AWp.ret ?_) | (refine AWp.skip ?_) | (refine AWp.exit ?_) | (refine aops_callH rfl fun kC => ?_) | (refine qops_callH rfl fun kC => ?_) | (refine AWp.condB ?_) | (simp only [bse, wk, tys, storeH_ptr, Nat.reduceEqDiff, ↓reduceIte, reduceCtorEq, Nat.reduceAdd, Nat.reduceLeDiff, Int.reduceBEq, Int.reduceLT, Int.reduceLE, Int.reduceEq, ne_eq, not_false_eq_true, Nat.reduceMul, ledgerE_val, ledgerE_sz, signE_val, signE_sz, blockResultE_val, blockResultE_sz, blockE_val, blockE_sz, *]) | (refine condK_bool (fun hb => ?_) (fun hb => ?_) <;> ((try simp only [Bool.not_eq_true', Bool.not_eq_false'] at hb) <;> (try (have hbe := of_decide_eq_true hb)) <;> (try (have hbe := eq_of_beq hb)))) | (refine aops_partB ?_) | (refine qops_partB ?_))
  refine ACalls.get (mko_Ledger l n_l _ _ _ (1) (hc.get 0 rfl) (hc.getNd 0 rfl) (by omega) (by omega)) (by first | exact Nat.le_refl _ | exact Nat.zero_le _ | (simp only [List.length_append, List.length_cons, List.length_nil]; omega) | (simp only [List.length_set]; omega) | omega) (by first | exact Nat.le_refl _ | exact Nat.zero_le _ | (simp only [List.length_append, List.length_cons, List.length_nil]; omega) | (simp only [List.length_set]; omega) | omega) ?_
  rintro _ H6 ⟨rfl, hM0⟩
  obtain ⟨y0, hc⟩ := hc.mark0 0 rfl hM0
  clear hM0
  simp only [List.set_cons_zero, List.set_cons_succ] at hc
  clear hb0 ha0 hb1 ha1 hb2 ha2 hb3 ha3
  have hb0 := hc.bx 0 rfl
  have hb1 := hc.bx 1 rfl
  have hb2 := hc.bx 2 rfl
  have hb3 := hc.bx 3 rfl
  try simp only [List.length_nil, Nat.zero_add, Nat.reduceAdd] at hb0 hb1 hb2 hb3
  have ha0 := fun b : Blk => get_old (L := [b]) hb0
  have ha1 := fun b : Blk => get_old (L := [b]) hb1
  have ha2 := fun b : Blk => get_old (L := [b]) hb2
  have ha3 := fun b : Blk => get_old (L := [b]) hb3
  have hk0 : ¬ 1 + ((mLedger l : Nat) : Int) < 0 := by omega
  repeat' (first | (refine AWp.mixed (id := 10) [(0, 0), (1, 0), (2, 1), (3, 1), (4, 0)] (by kernel_rfl) (by kernel_rfl) ?_) | (refine KV.run _ ?_) | (refine KQ.run _ ?_) | (refine KT.run _ ?_) | (refine AWp.seqH fun KC => ?_) | (refine AWp.block ?_) | (refine AWp.region ?_) | (refine mops_step0 rfl rfl fun KC => ?_) | (refine mops_step1 rfl fun KC => ?_) | (refine mops_step2 rfl fun KC => ?_) | (refine AWp.ret ?_) | (refine AWp.skip ?_) | (refine AWp.exit ?_) | (refine aops_callH rfl fun kC => ?_) | (refine qops_callH rfl fun kC => ?_) | (refine AWp.condB ?_) | (simp only [bse, wk, tys, storeH_ptr, Nat.reduceEqDiff, ↓reduceIte, reduceCtorEq, Nat.reduceAdd, Nat.reduceLeDiff, Int.reduceBEq, Int.reduceLT, Int.reduceLE, Int.reduceEq, ne_eq, not_false_eq_true, Nat.reduceMul, ledgerE_val, ledgerE_sz, signE_val, signE_sz, blockResultE_val, blockResultE_sz, blockE_val, blockE_sz, *]) | (refine condK_bool (fun hb => ?_) (fun hb => ?_) <;> ((try simp only [Bool.not_eq_true', Bool.not_eq_false'] at hb) <;> (try (have hbe := of_decide_eq_true hb)) <;> (try (have hbe := eq_of_beq hb)))) | (refine aops_partB ?_) | (refine qops_partB ?_))
  refine ACalls.ofP (heq) (.cons (hc.get 1 rfl).bor1 (.cons (.same _ (by first | exact islE_im _ _ | exact Enc.val_im _ _ | exact Im.flat _ rfl | (repeat' (first | exact Im.nilL | refine Im.consL ?_ ?_ | exact Im.flat _ rfl | exact islE_im _ _ | exact Enc.val_im _ _ | refine Im.aggL ?_ | refine Im.tupleL ?_ | refine Im.isl ?_)))) (.nil))) rfl ?_
  repeat' (first | (refine AWp.mixed (id := 10) [(0, 0), (1, 0), (2, 1), (3, 1), (4, 0)] (by kernel_rfl) (by kernel_rfl) ?_) | (refine KV.run _ ?_) | (refine KQ.run _ ?_) | (refine KT.run _ ?_) | (refine AWp.seqH fun KC => ?_) | (refine AWp.block ?_) | (refine AWp.region ?_) | (refine mops_step0 rfl rfl fun KC => ?_) | (refine mops_step1 rfl fun KC => ?_) | (refine mops_step2 rfl fun KC => ?_) | (refine AWp.ret ?_) | (refine AWp.skip ?_) | (refine AWp.exit ?_) | (refine aops_callH rfl fun kC => ?_) | (refine qops_callH rfl fun kC => ?_) | (refine AWp.condB ?_) | (simp only [bse, wk, tys, storeH_ptr, Nat.reduceEqDiff, ↓reduceIte, reduceCtorEq, Nat.reduceAdd, Nat.reduceLeDiff, Int.reduceBEq, Int.reduceLT, Int.reduceLE, Int.reduceEq, ne_eq, not_false_eq_true, Nat.reduceMul, ledgerE_val, ledgerE_sz, signE_val, signE_sz, blockResultE_val, blockResultE_sz, blockE_val, blockE_sz, *]) | (refine condK_bool (fun hb => ?_) (fun hb => ?_) <;> ((try simp only [Bool.not_eq_true', Bool.not_eq_false'] at hb) <;> (try (have hbe := of_decide_eq_true hb)) <;> (try (have hbe := eq_of_beq hb)))) | (refine aops_partB ?_) | (refine qops_partB ?_))
  refine ACalls.get (mk_BlockResult w hR _ _ _ 1 (hc.get 1 rfl) (hc.getNd 1 rfl) (by omega) (by omega)) (by first | exact Nat.le_refl _ | exact Nat.zero_le _ | (simp only [List.length_append, List.length_cons, List.length_nil]; omega) | (simp only [List.length_set]; omega) | omega) (by first | exact Nat.le_refl _ | exact Nat.zero_le _ | (simp only [List.length_append, List.length_cons, List.length_nil]; omega) | (simp only [List.length_set]; omega) | omega) ?_
  rintro _ H7 ⟨rfl, hMg⟩
  obtain ⟨yg, hyg, hc⟩ := hc.mark 1 rfl hMg
  clear hMg
  simp only [List.set_cons_zero, List.set_cons_succ] at hc
  clear hb0 ha0 hb1 ha1 hb2 ha2 hb3 ha3
  have hb0 := hc.bx 0 rfl
  have hb1 := hc.bx 1 rfl
  have hb2 := hc.bx 2 rfl
  have hb3 := hc.bx 3 rfl
  try simp only [List.length_nil, Nat.zero_add, Nat.reduceAdd] at hb0 hb1 hb2 hb3
  have ha0 := fun b : Blk => get_old (L := [b]) hb0
  have ha1 := fun b : Blk => get_old (L := [b]) hb1
  have ha2 := fun b : Blk => get_old (L := [b]) hb2
  have ha3 := fun b : Blk => get_old (L := [b]) hb3
  repeat' (first | (refine AWp.mixed (id := 10) [(0, 0), (1, 0), (2, 1), (3, 1), (4, 0)] (by kernel_rfl) (by kernel_rfl) ?_) | (refine KV.run _ ?_) | (refine KQ.run _ ?_) | (refine KT.run _ ?_) | (refine AWp.seqH fun KC => ?_) | (refine AWp.block ?_) | (refine AWp.region ?_) | (refine mops_step0 rfl rfl fun KC => ?_) | (refine mops_step1 rfl fun KC => ?_) | (refine mops_step2 rfl fun KC => ?_) | (refine AWp.ret ?_) | (refine AWp.skip ?_) | (refine AWp.exit ?_) | (refine aops_callH rfl fun kC => ?_) | (refine qops_callH rfl fun kC => ?_) | (refine AWp.condB ?_) | (simp only [bse, wk, tys, storeH_ptr, Nat.reduceEqDiff, ↓reduceIte, reduceCtorEq, Nat.reduceAdd, Nat.reduceLeDiff, Int.reduceBEq, Int.reduceLT, Int.reduceLE, Int.reduceEq, ne_eq, not_false_eq_true, Nat.reduceMul, ledgerE_val, ledgerE_sz, signE_val, signE_sz, blockResultE_val, blockResultE_sz, blockE_val, blockE_sz, *]) | (refine condK_bool (fun hb => ?_) (fun hb => ?_) <;> ((try simp only [Bool.not_eq_true', Bool.not_eq_false'] at hb) <;> (try (have hbe := of_decide_eq_true hb)) <;> (try (have hbe := eq_of_beq hb)))) | (refine aops_partB ?_) | (refine qops_partB ?_))
  refine ACalls.ofP (hyg) ((hc.get 1 rfl).bork) rfl ?_
  repeat' (first | (refine AWp.mixed (id := 10) [(0, 0), (1, 0), (2, 1), (3, 1), (4, 0)] (by kernel_rfl) (by kernel_rfl) ?_) | (refine ACalls.start ?_; first | (refine ACalls.ofJi (laws_toLedger l n_l) rfl ?_)) | (refine qcall_start ?_; first | (refine qcallFi (laws_toLedger l n_l) rfl ?_ ?_; (focus ((first | exact rfl | (simp [pureV, flatV, ledgerE_val, ledgerE_sz, signE_val, signE_sz, blockResultE_val, blockResultE_sz, blockE_val, blockE_sz]; done)))))) | (refine KV.run _ ?_) | (refine KQ.run _ ?_) | (refine KT.run _ ?_) | (refine AWp.seqH fun KC => ?_) | (refine AWp.block ?_) | (refine AWp.region ?_) | (refine mops_step0 rfl rfl fun KC => ?_) | (refine mops_step1 rfl fun KC => ?_) | (refine mops_step2 rfl fun KC => ?_) | (refine AWp.ret ?_) | (refine AWp.skip ?_) | (refine AWp.exit ?_) | (refine aops_callH rfl fun kC => ?_) | (refine qops_callH rfl fun kC => ?_) | (refine AWp.condB ?_) | (simp only [bse, wk, tys, storeH_ptr, Nat.reduceEqDiff, ↓reduceIte, reduceCtorEq, Nat.reduceAdd, Nat.reduceLeDiff, Int.reduceBEq, Int.reduceLT, Int.reduceLE, Int.reduceEq, ne_eq, not_false_eq_true, Nat.reduceMul, ledgerE_val, ledgerE_sz, signE_val, signE_sz, blockResultE_val, blockResultE_sz, blockE_val, blockE_sz, *]) | (refine condK_bool (fun hb => ?_) (fun hb => ?_) <;> ((try simp only [Bool.not_eq_true', Bool.not_eq_false'] at hb) <;> (try (have hbe := of_decide_eq_true hb)) <;> (try (have hbe := eq_of_beq hb)))) | (refine aops_partB ?_) | (refine qops_partB ?_))
  refine ACalls.ofJ himp2 rfl ?_ ?_ ?_
  · (repeat' (first | exact Im.nilL | refine Im.consL ?_ ?_ | refine Im.appL ?_ ?_ | exact Im.flat _ rfl | exact islE_im _ _ | exact Enc.val_im _ _ | assumption | refine Im.aggL ?_ | refine Im.tupleL ?_ | refine Im.funcL ?_ | refine Im.funcA ?_ | refine Im.isl ?_ | refine Im.ip ?_)); done
  · (repeat' (first | exact Im.nilL | refine Im.consL ?_ ?_ | refine Im.appL ?_ ?_ | exact Im.flat _ rfl | exact islE_im _ _ | exact Enc.val_im _ _ | assumption | refine Im.aggL ?_ | refine Im.tupleL ?_ | refine Im.funcL ?_ | refine Im.funcA ?_ | refine Im.isl ?_ | refine Im.ip ?_)); done
  repeat' (first | (refine AWp.mixed (id := 10) [(0, 0), (1, 0), (2, 1), (3, 1), (4, 0)] (by kernel_rfl) (by kernel_rfl) ?_) | (refine KV.run _ ?_) | (refine KQ.run _ ?_) | (refine KT.run _ ?_) | (refine AWp.seqH fun KC => ?_) | (refine AWp.block ?_) | (refine AWp.region ?_) | (refine mops_step0 rfl rfl fun KC => ?_) | (refine mops_step1 rfl fun KC => ?_) | (refine mops_step2 rfl fun KC => ?_) | (refine AWp.ret ?_) | (refine AWp.skip ?_) | (refine AWp.exit ?_) | (refine aops_callH rfl fun kC => ?_) | (refine qops_callH rfl fun kC => ?_) | (refine AWp.condB ?_) | (simp only [bse, wk, tys, storeH_ptr, Nat.reduceEqDiff, ↓reduceIte, reduceCtorEq, Nat.reduceAdd, Nat.reduceLeDiff, Int.reduceBEq, Int.reduceLT, Int.reduceLE, Int.reduceEq, ne_eq, not_false_eq_true, Nat.reduceMul, ledgerE_val, ledgerE_sz, signE_val, signE_sz, blockResultE_val, blockResultE_sz, blockE_val, blockE_sz, *]) | (refine condK_bool (fun hb => ?_) (fun hb => ?_) <;> ((try simp only [Bool.not_eq_true', Bool.not_eq_false'] at hb) <;> (try (have hbe := of_decide_eq_true hb)) <;> (try (have hbe := eq_of_beq hb)))) | (refine aops_partB ?_) | (refine qops_partB ?_))
  refine ACalls.absb hc ?_
  intro H8 hc
  clear hb0 ha0 hb1 ha1 hb2 ha2 hb3 ha3
  have hb0 := hc.bx 0 rfl
  have hb1 := hc.bx 1 rfl
  have hb2 := hc.bx 2 rfl
  have hb3 := hc.bx 3 rfl
  have hb4 := hc.bx 4 rfl
  try simp only [List.length_nil, Nat.zero_add, Nat.reduceAdd] at hb0 hb1 hb2 hb3 hb4
  have ha0 := fun b : Blk => get_old (L := [b]) hb0
  have ha1 := fun b : Blk => get_old (L := [b]) hb1
  have ha2 := fun b : Blk => get_old (L := [b]) hb2
  have ha3 := fun b : Blk => get_old (L := [b]) hb3
  have ha4 := fun b : Blk => get_old (L := [b]) hb4
  refine ACalls.ofP (heq) (.cons (.same _ (by first | exact islE_im _ _ | exact Enc.val_im _ _ | exact Im.flat _ rfl | (repeat' (first | exact Im.nilL | refine Im.consL ?_ ?_ | exact Im.flat _ rfl | exact islE_im _ _ | exact Enc.val_im _ _ | refine Im.aggL ?_ | refine Im.tupleL ?_ | refine Im.isl ?_)))) (.cons (.same _ (by first | exact islE_im _ _ | exact Enc.val_im _ _ | exact Im.flat _ rfl | (repeat' (first | exact Im.nilL | refine Im.consL ?_ ?_ | exact Im.flat _ rfl | exact islE_im _ _ | exact Enc.val_im _ _ | refine Im.aggL ?_ | refine Im.tupleL ?_ | refine Im.isl ?_)))) (.nil))) rfl ?_
  repeat' (first | (refine AWp.mixed (id := 10) [(0, 0), (1, 0), (2, 1), (3, 1), (4, 0)] (by kernel_rfl) (by kernel_rfl) ?_) | (refine KV.run _ ?_) | (refine KQ.run _ ?_) | (refine KT.run _ ?_) | (refine AWp.seqH fun KC => ?_) | (refine AWp.block ?_) | (refine AWp.region ?_) | (refine mops_step0 rfl rfl fun KC => ?_) | (refine mops_step1 rfl fun KC => ?_) | (refine mops_step2 rfl fun KC => ?_) | (refine AWp.ret ?_) | (refine AWp.skip ?_) | (refine AWp.exit ?_) | (refine aops_callH rfl fun kC => ?_) | (refine qops_callH rfl fun kC => ?_) | (refine AWp.condB ?_) | (simp only [bse, wk, tys, storeH_ptr, Nat.reduceEqDiff, ↓reduceIte, reduceCtorEq, Nat.reduceAdd, Nat.reduceLeDiff, Int.reduceBEq, Int.reduceLT, Int.reduceLE, Int.reduceEq, ne_eq, not_false_eq_true, Nat.reduceMul, ledgerE_val, ledgerE_sz, signE_val, signE_sz, blockResultE_val, blockResultE_sz, blockE_val, blockE_sz, *]) | (refine condK_bool (fun hb => ?_) (fun hb => ?_) <;> ((try simp only [Bool.not_eq_true', Bool.not_eq_false'] at hb) <;> (try (have hbe := of_decide_eq_true hb)) <;> (try (have hbe := eq_of_beq hb)))) | (refine aops_partB ?_) | (refine qops_partB ?_))
  refine ACalls.ofP (hyg) ((hc.get 1 rfl).bork) rfl ?_
  repeat' (first | (refine AWp.mixed (id := 10) [(0, 0), (1, 0), (2, 1), (3, 1), (4, 0)] (by kernel_rfl) (by kernel_rfl) ?_) | (refine KV.run _ ?_) | (refine KQ.run _ ?_) | (refine KT.run _ ?_) | (refine AWp.seqH fun KC => ?_) | (refine AWp.block ?_) | (refine AWp.region ?_) | (refine mops_step0 rfl rfl fun KC => ?_) | (refine mops_step1 rfl fun KC => ?_) | (refine mops_step2 rfl fun KC => ?_) | (refine AWp.ret ?_) | (refine AWp.skip ?_) | (refine AWp.exit ?_) | (refine aops_callH rfl fun kC => ?_) | (refine qops_callH rfl fun kC => ?_) | (refine AWp.condB ?_) | (simp only [bse, wk, tys, storeH_ptr, Nat.reduceEqDiff, ↓reduceIte, reduceCtorEq, Nat.reduceAdd, Nat.reduceLeDiff, Int.reduceBEq, Int.reduceLT, Int.reduceLE, Int.reduceEq, ne_eq, not_false_eq_true, Nat.reduceMul, ledgerE_val, ledgerE_sz, signE_val, signE_sz, blockResultE_val, blockResultE_sz, blockE_val, blockE_sz, *]) | (refine condK_bool (fun hb => ?_) (fun hb => ?_) <;> ((try simp only [Bool.not_eq_true', Bool.not_eq_false'] at hb) <;> (try (have hbe := of_decide_eq_true hb)) <;> (try (have hbe := eq_of_beq hb)))) | (refine aops_partB ?_) | (refine qops_partB ?_))
end Go.BM
