/- Who owns what: slices and structs of the laws. -/
import Derived.Test.YtfggnccpbdfpeaaU3
set_option linter.unusedVariables false
set_option linter.unusedSimpArgs false
set_option maxRecDepth 100000
set_option maxHeartbeats 4000000
namespace Go.BM
open Go.Proofs Go.RowKit
attribute [local irreducible] ACalls AWp aops qops optK optP cK gateA condK mops qcallK PCalls loadV fldV idxV lenV slV storeH binS
theorem mk_Ledger (x : TLedger) (hn : nLedger x ≤ 1048576) : MCalls Try.prog 23 103 (ledgerE.val x) (mLedger x) := by
  unfold nLedger at hn
  unfold mLedger
  intro H d S k ho hnd hk hk2
  rw [ledgerE_val] at ho
  obtain ⟨xs, rfl, o⟩ := OwnL.aggI ho
  clear ho
  obtain ⟨d_0, m_0, S_0, R_0, rfl, rfl, p_0, o_n1⟩ := OwnL.consI o
  obtain ⟨a_0, n_0, v_0, rfl⟩ := OwnL.slD p_0
  obtain ⟨d_1, m_1, S_1, R_1, rfl, rfl, p_1, o_n2⟩ := OwnL.consI o_n1
  obtain ⟨a_1, n_1, v_1, rfl⟩ := OwnL.slD p_1
  obtain ⟨rfl, rfl⟩ := OwnL.nilI o_n2
  have hc : Cx H [(.slice a_0 n_0 v_0, islE strE x.texts, S_0), (.slice a_1 n_1 v_1, islE signE x.signs, S_1)] [] := ⟨by intro o ho; simp only [List.mem_cons, List.not_mem_nil, or_false] at ho; rcases ho with rfl | rfl <;> first | exact p_0 | exact p_1, by simpa using hnd, by simp⟩
  refine ACalls.enter (n := 14) (rs := [.tmp 4]) Try.func23 rfl rfl rfl (by kernel_rfl) (by kernel_rfl) (by kernel_rfl) (Nat.le_of_ble_eq_true rfl) ?_
  repeat' (first | (refine KV.run _ ?_) | (refine KQ.run _ ?_) | (refine KT.run _ ?_) | (refine AWp.seqH fun KC => ?_) | (refine AWp.block ?_) | (refine AWp.region ?_) | (refine mops_step0 rfl rfl fun KC => ?_) | (refine mops_step1 rfl fun KC => ?_) | (refine mops_step2 rfl fun KC => ?_) | (refine AWp.ret ?_) | (refine AWp.skip ?_) | (refine AWp.exit ?_) | (refine aops_callH rfl fun kC => ?_) | (refine qops_callH rfl fun kC => ?_) | (refine AWp.condB ?_) | (simp only [bse, wk, tys, storeH_ptr, Nat.reduceEqDiff, ↓reduceIte, reduceCtorEq, Nat.reduceAdd, Nat.reduceLeDiff, Int.reduceBEq, Int.reduceLT, Int.reduceLE, Int.reduceEq, ne_eq, not_false_eq_true, Nat.reduceMul, ledgerE_val, ledgerE_sz, *]) | (refine condK_bool (fun hb => ?_) (fun hb => ?_) <;> ((try simp only [Bool.not_eq_true', Bool.not_eq_false'] at hb) <;> (try (have hbe := of_decide_eq_true hb)) <;> (try (have hbe := eq_of_beq hb)))) | (refine aops_partB ?_) | (refine qops_partB ?_))
  refine ACalls.get (mk_StringS x.texts (by have := nStrS_len x.texts; omega) _ _ _ (k) ((hc.push _).get 0 rfl) (hc.getNd 0 rfl) (by omega) (by omega)) (by first | exact Nat.le_refl _ | exact Nat.zero_le _ | (simp only [List.length_append, List.length_cons, List.length_nil]; omega) | (simp only [List.length_set]; omega) | omega) (by first | exact Nat.le_refl _ | exact Nat.zero_le _ | (simp only [List.length_append, List.length_cons, List.length_nil]; omega) | (simp only [List.length_set]; omega) | omega) ?_
  rintro _ H0 ⟨rfl, hM0⟩
  obtain ⟨y0, hy0, hc0⟩ := (hc.push _).mark 0 rfl hM0
  have hb0 := hc0.bx 0 rfl
  repeat' (first | (refine KV.run _ ?_) | (refine KQ.run _ ?_) | (refine KT.run _ ?_) | (refine AWp.seqH fun KC => ?_) | (refine AWp.block ?_) | (refine AWp.region ?_) | (refine mops_step0 rfl rfl fun KC => ?_) | (refine mops_step1 rfl fun KC => ?_) | (refine mops_step2 rfl fun KC => ?_) | (refine AWp.ret ?_) | (refine AWp.skip ?_) | (refine AWp.exit ?_) | (refine aops_callH rfl fun kC => ?_) | (refine qops_callH rfl fun kC => ?_) | (refine AWp.condB ?_) | (simp only [bse, wk, tys, storeH_ptr, Nat.reduceEqDiff, ↓reduceIte, reduceCtorEq, Nat.reduceAdd, Nat.reduceLeDiff, Int.reduceBEq, Int.reduceLT, Int.reduceLE, Int.reduceEq, ne_eq, not_false_eq_true, Nat.reduceMul, ledgerE_val, ledgerE_sz, *]) | (refine condK_bool (fun hb => ?_) (fun hb => ?_) <;> ((try simp only [Bool.not_eq_true', Bool.not_eq_false'] at hb) <;> (try (have hbe := of_decide_eq_true hb)) <;> (try (have hbe := eq_of_beq hb)))) | (refine aops_partB ?_) | (refine qops_partB ?_))
  refine ACalls.get (mk_SignS x.signs (by omega) _ _ _ (k + ((x.texts.length : Nat) : Int)) (hc0.get 1 rfl) (hc.getNd 1 rfl) (by omega) (by omega)) (by first | exact Nat.le_refl _ | exact Nat.zero_le _ | (simp only [List.length_append, List.length_cons, List.length_nil]; omega) | (simp only [List.length_set]; omega) | omega) (by first | exact Nat.le_refl _ | exact Nat.zero_le _ | (simp only [List.length_append, List.length_cons, List.length_nil]; omega) | (simp only [List.length_set]; omega) | omega) ?_
  rintro _ H1 ⟨rfl, hM1⟩
  obtain ⟨y1, hy1, hc1⟩ := hc0.mark 1 rfl hM1
  have hb1 := hc1.bx 0 rfl
  repeat' (first | (refine KV.run _ ?_) | (refine KQ.run _ ?_) | (refine KT.run _ ?_) | (refine AWp.seqH fun KC => ?_) | (refine AWp.block ?_) | (refine AWp.region ?_) | (refine mops_step0 rfl rfl fun KC => ?_) | (refine mops_step1 rfl fun KC => ?_) | (refine mops_step2 rfl fun KC => ?_) | (refine AWp.ret ?_) | (refine AWp.skip ?_) | (refine AWp.exit ?_) | (refine aops_callH rfl fun kC => ?_) | (refine qops_callH rfl fun kC => ?_) | (refine AWp.condB ?_) | (simp only [bse, wk, tys, storeH_ptr, Nat.reduceEqDiff, ↓reduceIte, reduceCtorEq, Nat.reduceAdd, Nat.reduceLeDiff, Int.reduceBEq, Int.reduceLT, Int.reduceLE, Int.reduceEq, ne_eq, not_false_eq_true, Nat.reduceMul, ledgerE_val, ledgerE_sz, *]) | (refine condK_bool (fun hb => ?_) (fun hb => ?_) <;> ((try simp only [Bool.not_eq_true', Bool.not_eq_false'] at hb) <;> (try (have hbe := of_decide_eq_true hb)) <;> (try (have hbe := eq_of_beq hb)))) | (refine aops_partB ?_) | (refine qops_partB ?_))
  obtain ⟨k0, cs0, _, _, _, e0, _, _, _⟩ := OwnL.slY (hc1.get 0 rfl)
  cases e0
  haveI im0 : ImC (isl k0 cs0) := ⟨(hc1.get 0 rfl).im1⟩
  obtain ⟨k1, cs1, _, _, _, e1, _, _, _⟩ := OwnL.slY (hc1.get 1 rfl)
  cases e1
  haveI im1 : ImC (isl k1 cs1) := ⟨(hc1.get 1 rfl).im1⟩
  have hh : PCalls Try.prog 103 [.agg #[isl k0 cs0, isl k1 cs1], .int .i64 k] (.int .i64 (k + ((x.texts.length : Nat) : Int) + ((x.signs.length * 2 : Nat) : Int))) := by
    have q0 : ¬ k + ((x.texts.length : Nat) : Int) < 0 := by omega
    have q1 : ¬ k + ((x.texts.length : Nat) : Int) + ((x.signs.length * 2 : Nat) : Int) < 0 := by omega
    refine PCalls.flat rfl ?_; refine ACalls.enter (n := 18) (rs := [.tmp 4]) Try.func103 rfl rfl rfl (by kernel_rfl) (by kernel_rfl) (by kernel_rfl) (Nat.le_of_ble_eq_true rfl) ?_
    repeat' (first | (refine ACalls.start ?_; first | (refine ACalls.ofJi (hy0) rfl ?_) | (refine ACalls.ofJi (hy1) rfl ?_)) | (refine qcall_start ?_; first | (refine qcallFi (hy0) rfl ?_ ?_; (focus ((first | exact rfl | (simp [pureV, flatV, ledgerE_val, ledgerE_sz]; done))))) | (refine qcallFi (hy1) rfl ?_ ?_; (focus ((first | exact rfl | (simp [pureV, flatV, ledgerE_val, ledgerE_sz]; done)))))) | (refine KV.run _ ?_) | (refine KQ.run _ ?_) | (refine KT.run _ ?_) | (refine AWp.seqH fun KC => ?_) | (refine AWp.block ?_) | (refine AWp.region ?_) | (refine mops_step0 rfl rfl fun KC => ?_) | (refine mops_step1 rfl fun KC => ?_) | (refine mops_step2 rfl fun KC => ?_) | (refine AWp.ret ?_) | (refine AWp.skip ?_) | (refine AWp.exit ?_) | (refine aops_callH rfl fun kC => ?_) | (refine qops_callH rfl fun kC => ?_) | (refine AWp.condB ?_) | (simp only [bse, wk, tys, storeH_ptr, Nat.reduceEqDiff, ↓reduceIte, reduceCtorEq, Nat.reduceAdd, Nat.reduceLeDiff, Int.reduceBEq, Int.reduceLT, Int.reduceLE, Int.reduceEq, ne_eq, not_false_eq_true, Nat.reduceMul, ledgerE_val, ledgerE_sz, *]) | (refine condK_bool (fun hb => ?_) (fun hb => ?_) <;> ((try simp only [Bool.not_eq_true', Bool.not_eq_false'] at hb) <;> (try (have hbe := of_decide_eq_true hb)) <;> (try (have hbe := eq_of_beq hb)))) | (refine aops_partB ?_) | (refine qops_partB ?_))
  have ek : k + ((x.texts.length : Nat) : Int) + ((x.signs.length * 2 : Nat) : Int) = k + ((x.texts.length + x.signs.length * 2 : Nat) : Int) := by omega
  rw [ek] at hh
  try rw [ek]
  try (refine And.intro ?_ ?_; focus (first | rfl | omega | (congr 1; omega)))
  refine ⟨by have := hM0.len; have := hM1.len; simp only [List.length_append, List.length_cons, List.length_nil] at *; omega, fun r hr hs => (hM1.old r (by have := hM0.len; have := hM1.len; simp only [List.length_append, List.length_cons, List.length_nil] at *; omega) (fun h => hs (by first | exact h | (simp at h ⊢; grind)))).trans ((hM0.old r (by have := hM0.len; have := hM1.len; simp only [List.length_append, List.length_cons, List.length_nil] at *; omega) (fun h => hs (by first | exact h | (simp at h ⊢; grind)))).trans (List.getElem?_append_left hr)), _, ?_, hh⟩
  have hS : OwnL true H1 [.agg #[.slice a_0 n_0 v_0, .slice a_1 n_1 v_1]] [.agg #[isl k0 cs0, isl k1 cs1]] _ := OwnL.aggL (OwnL.append (hc1.get 0 rfl) (OwnL.append (hc1.get 1 rfl) (.nil)))
  first | exact hS | simpa using hS
def nLedgerResult (x : TLedgerResult) : Nat := nLedger x.ledger
def mLedgerResult (x : TLedgerResult) : Nat := mLedger x.ledger
def limLedgerResult (x : TLedgerResult) : Prop := limLedger x.ledger
theorem laws_eqLedgerResult (x : TLedgerResult) (hn : nLedgerResult x ≤ 1048576) : PCalls Try.prog 21 [ledgerResultE.val x, ledgerResultE.val x] (.bool true) := by
  unfold nLedgerResult at hn
  refine PCalls.flat rfl ?_; refine ACalls.enter (n := 21) (rs := [.tmp 4]) Try.func21 rfl rfl rfl (by kernel_rfl) (by kernel_rfl) (by kernel_rfl) (Nat.le_of_ble_eq_true rfl) ?_
  repeat' (first | (refine ACalls.start ?_; first | (refine ACalls.ofJi (laws_eqLedger x.ledger (by omega)) rfl ?_)) | (refine qcall_start ?_; first | (refine qcallFi (laws_eqLedger x.ledger (by omega)) rfl ?_ ?_; (focus ((first | exact rfl | (simp [pureV, flatV, ledgerE_val, ledgerE_sz, ledgerResultE_val, ledgerResultE_sz]; done)))))) | (refine KV.run _ ?_) | (refine KQ.run _ ?_) | (refine KT.run _ ?_) | (refine AWp.seqH fun KC => ?_) | (refine AWp.block ?_) | (refine AWp.region ?_) | (refine mops_step0 rfl rfl fun KC => ?_) | (refine mops_step1 rfl fun KC => ?_) | (refine mops_step2 rfl fun KC => ?_) | (refine AWp.ret ?_) | (refine AWp.skip ?_) | (refine AWp.exit ?_) | (refine aops_callH rfl fun kC => ?_) | (refine qops_callH rfl fun kC => ?_) | (refine AWp.condB ?_) | (simp only [bse, wk, tys, storeH_ptr, Nat.reduceEqDiff, ↓reduceIte, reduceCtorEq, Nat.reduceAdd, Nat.reduceLeDiff, Int.reduceBEq, Int.reduceLT, Int.reduceLE, Int.reduceEq, ne_eq, not_false_eq_true, Nat.reduceMul, ledgerE_val, ledgerE_sz, ledgerResultE_val, ledgerResultE_sz, *]) | (refine condK_bool (fun hb => ?_) (fun hb => ?_) <;> ((try simp only [Bool.not_eq_true', Bool.not_eq_false'] at hb) <;> (try (have hbe := of_decide_eq_true hb)) <;> (try (have hbe := eq_of_beq hb)))) | (refine aops_partB ?_) | (refine qops_partB ?_))
theorem mk_LedgerResult (x : TLedgerResult) (hn : nLedgerResult x ≤ 1048576) : MCalls Try.prog 24 25 (ledgerResultE.val x) (mLedgerResult x) := by
  unfold nLedgerResult at hn
  unfold mLedgerResult
  intro H d S k ho hnd hk hk2
  rw [ledgerResultE_val] at ho
  obtain ⟨xs, rfl, o⟩ := OwnL.aggI ho
  clear ho
  obtain ⟨m_0, rfl, o_n1⟩ := OwnL.flatI o rfl
  obtain ⟨m_1, rfl, o_n2⟩ := OwnL.flatI o_n1 rfl
  obtain ⟨d_2, m_2, S_2, R_2, rfl, rfl, p_2, o_n3⟩ := OwnL.consI o_n2
  obtain ⟨a_2, n_2, v_2, rfl⟩ := OwnL.slD p_2
  obtain ⟨d_3, m_3, S_3, R_3, rfl, rfl, p_3, o_n4⟩ := OwnL.consI o_n3
  obtain ⟨a_3, n_3, v_3, rfl⟩ := OwnL.slD p_3
  obtain ⟨rfl, rfl⟩ := OwnL.nilI o_n4
  have hc : Cx H [(.agg #[.slice a_2 n_2 v_2, .slice a_3 n_3 v_3], ledgerE.val x.ledger, S_2 ++ (S_3 ++ ([])))] [] := ⟨by intro o ho; simp only [List.mem_cons, List.not_mem_nil, or_false] at ho; rcases ho with rfl <;> first | exact (OwnL.aggL (OwnL.append p_2 (OwnL.append p_3 (.nil)))), by simpa using hnd, by simp⟩
  refine ACalls.enter (n := 10) (rs := [.tmp 4]) Try.func24 rfl rfl rfl (by kernel_rfl) (by kernel_rfl) (by kernel_rfl) (Nat.le_of_ble_eq_true rfl) ?_
  repeat' (first | (refine KV.run _ ?_) | (refine KQ.run _ ?_) | (refine KT.run _ ?_) | (refine AWp.seqH fun KC => ?_) | (refine AWp.block ?_) | (refine AWp.region ?_) | (refine mops_step0 rfl rfl fun KC => ?_) | (refine mops_step1 rfl fun KC => ?_) | (refine mops_step2 rfl fun KC => ?_) | (refine AWp.ret ?_) | (refine AWp.skip ?_) | (refine AWp.exit ?_) | (refine aops_callH rfl fun kC => ?_) | (refine qops_callH rfl fun kC => ?_) | (refine AWp.condB ?_) | (simp only [bse, wk, tys, storeH_ptr, Nat.reduceEqDiff, ↓reduceIte, reduceCtorEq, Nat.reduceAdd, Nat.reduceLeDiff, Int.reduceBEq, Int.reduceLT, Int.reduceLE, Int.reduceEq, ne_eq, not_false_eq_true, Nat.reduceMul, ledgerE_val, ledgerE_sz, ledgerResultE_val, ledgerResultE_sz, *]) | (refine condK_bool (fun hb => ?_) (fun hb => ?_) <;> ((try simp only [Bool.not_eq_true', Bool.not_eq_false'] at hb) <;> (try (have hbe := of_decide_eq_true hb)) <;> (try (have hbe := eq_of_beq hb)))) | (refine aops_partB ?_) | (refine qops_partB ?_))
  refine ACalls.get (mk_Ledger x.ledger (by omega) _ _ _ (k) ((hc.push _).get 0 rfl) (hc.getNd 0 rfl) (by omega) (by omega)) (by first | exact Nat.le_refl _ | exact Nat.zero_le _ | (simp only [List.length_append, List.length_cons, List.length_nil]; omega) | (simp only [List.length_set]; omega) | omega) (by first | exact Nat.le_refl _ | exact Nat.zero_le _ | (simp only [List.length_append, List.length_cons, List.length_nil]; omega) | (simp only [List.length_set]; omega) | omega) ?_
  rintro _ H0 ⟨rfl, hM0⟩
  obtain ⟨y0, hy0, hc0⟩ := (hc.push _).mark 0 rfl hM0
  have hb0 := hc0.bx 0 rfl
  repeat' (first | (refine KV.run _ ?_) | (refine KQ.run _ ?_) | (refine KT.run _ ?_) | (refine AWp.seqH fun KC => ?_) | (refine AWp.block ?_) | (refine AWp.region ?_) | (refine mops_step0 rfl rfl fun KC => ?_) | (refine mops_step1 rfl fun KC => ?_) | (refine mops_step2 rfl fun KC => ?_) | (refine AWp.ret ?_) | (refine AWp.skip ?_) | (refine AWp.exit ?_) | (refine aops_callH rfl fun kC => ?_) | (refine qops_callH rfl fun kC => ?_) | (refine AWp.condB ?_) | (simp only [bse, wk, tys, storeH_ptr, Nat.reduceEqDiff, ↓reduceIte, reduceCtorEq, Nat.reduceAdd, Nat.reduceLeDiff, Int.reduceBEq, Int.reduceLT, Int.reduceLE, Int.reduceEq, ne_eq, not_false_eq_true, Nat.reduceMul, ledgerE_val, ledgerE_sz, ledgerResultE_val, ledgerResultE_sz, *]) | (refine condK_bool (fun hb => ?_) (fun hb => ?_) <;> ((try simp only [Bool.not_eq_true', Bool.not_eq_false'] at hb) <;> (try (have hbe := of_decide_eq_true hb)) <;> (try (have hbe := eq_of_beq hb)))) | (refine aops_partB ?_) | (refine qops_partB ?_))
  obtain ⟨ys0, rfl, p0⟩ := OwnL.aggJ (hc0.get 0 rfl)
  obtain ⟨k_0_0, c_0_0, m_0_0, _, _, rfl, _, w_0_0, p0_n1⟩ := OwnL.slY p0
  haveI im_0_0 : ImC (isl k_0_0 c_0_0) := ⟨w_0_0.im1⟩
  obtain ⟨k_0_1, c_0_1, m_0_1, _, _, rfl, _, w_0_1, p0_n2⟩ := OwnL.slY p0_n1
  haveI im_0_1 : ImC (isl k_0_1 c_0_1) := ⟨w_0_1.im1⟩
  obtain ⟨rfl, _⟩ := OwnL.nilJ p0_n2
  have hh : PCalls Try.prog 25 [.agg #[.int .i64 x.code, .int .i64 x.id, isl k_0_0 c_0_0, isl k_0_1 c_0_1], .int .i64 k] (.int .i64 (k + ((mLedger x.ledger : Nat) : Int))) := by
    have q0 : ¬ k + ((mLedger x.ledger : Nat) : Int) < 0 := by omega
    refine PCalls.flat rfl ?_; refine ACalls.enter (n := 12) (rs := [.tmp 4]) Try.func25 rfl rfl rfl (by kernel_rfl) (by kernel_rfl) (by kernel_rfl) (Nat.le_of_ble_eq_true rfl) ?_
    repeat' (first | (refine ACalls.start ?_; first | (refine ACalls.ofJi (hy0) rfl ?_)) | (refine qcall_start ?_; first | (refine qcallFi (hy0) rfl ?_ ?_; (focus ((first | exact rfl | (simp [pureV, flatV, ledgerE_val, ledgerE_sz, ledgerResultE_val, ledgerResultE_sz]; done)))))) | (refine KV.run _ ?_) | (refine KQ.run _ ?_) | (refine KT.run _ ?_) | (refine AWp.seqH fun KC => ?_) | (refine AWp.block ?_) | (refine AWp.region ?_) | (refine mops_step0 rfl rfl fun KC => ?_) | (refine mops_step1 rfl fun KC => ?_) | (refine mops_step2 rfl fun KC => ?_) | (refine AWp.ret ?_) | (refine AWp.skip ?_) | (refine AWp.exit ?_) | (refine aops_callH rfl fun kC => ?_) | (refine qops_callH rfl fun kC => ?_) | (refine AWp.condB ?_) | (simp only [bse, wk, tys, storeH_ptr, Nat.reduceEqDiff, ↓reduceIte, reduceCtorEq, Nat.reduceAdd, Nat.reduceLeDiff, Int.reduceBEq, Int.reduceLT, Int.reduceLE, Int.reduceEq, ne_eq, not_false_eq_true, Nat.reduceMul, ledgerE_val, ledgerE_sz, ledgerResultE_val, ledgerResultE_sz, *]) | (refine condK_bool (fun hb => ?_) (fun hb => ?_) <;> ((try simp only [Bool.not_eq_true', Bool.not_eq_false'] at hb) <;> (try (have hbe := of_decide_eq_true hb)) <;> (try (have hbe := eq_of_beq hb)))) | (refine aops_partB ?_) | (refine qops_partB ?_))
  have ek : k + ((mLedger x.ledger : Nat) : Int) = k + ((mLedger x.ledger : Nat) : Int) := by omega
  rw [ek] at hh
  try rw [ek]
  try (refine And.intro ?_ ?_; focus (first | rfl | omega | (congr 1; omega)))
  refine ⟨by have := hM0.len; simp only [List.length_append, List.length_cons, List.length_nil] at *; omega, fun r hr hs => (hM0.old r (by have := hM0.len; simp only [List.length_append, List.length_cons, List.length_nil] at *; omega) (fun h => hs (by first | exact h | (simp at h ⊢; grind)))).trans (List.getElem?_append_left hr), _, ?_, hh⟩
  have hS : OwnL true H0 [.agg #[.int .i64 x.code, .int .i64 x.id, .slice a_2 n_2 v_2, .slice a_3 n_3 v_3]] [.agg #[.int .i64 x.code, .int .i64 x.id, isl k_0_0 c_0_0, isl k_0_1 c_0_1]] _ := OwnL.aggL (.flat rfl (.flat rfl (OwnL.append (OwnL.unagg (hc0.get 0 rfl)) (.nil))))
  first | exact hS | simpa using hS
end Go.BM
