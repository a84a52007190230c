/- Who owns what: slices and structs of the laws. -/
import Derived.Test.YtboephigjgncaaaGreatDoorU3
import Derived.Test.YtboephigjgncaaaGreatDoorU1
import Derived.Test.YtboephigjgncaaaGreatDoorC25
set_option linter.unusedVariables false
set_option linter.unusedSimpArgs false
set_option maxRecDepth 100000
set_option maxHeartbeats 4000000
namespace Go.BM
open Go.Proofs Go.RowKit
attribute [local irreducible] ACalls AWp aops qops optK optP cK gateA condK mops qcallK PCalls loadV fldV idxV lenV slV storeH binS
def nBlock (x : TBlock) : Nat := x.txs.length
def mBlock (x : TBlock) : Nat := x.txs.length
def limBlock (x : TBlock) : Prop := x.txs.length ≤ 9223372036854775807
theorem laws_eqBlock (x : TBlock) (hn : nBlock x ≤ 1048576) : PCalls Tryz.prog 27 [blockE.val x, blockE.val x] (.bool true) := by
  unfold nBlock at hn
  refine PCalls.flat rfl ?_; refine ACalls.enter (n := 26) (rs := [.tmp 4]) Tryz.func27 rfl rfl rfl (by kernel_rfl) (by kernel_rfl) (by kernel_rfl) (Nat.le_of_ble_eq_true rfl) ?_
  repeat' (first | (refine ACalls.start ?_; first | (refine ACalls.ofJi (laws_eqInt64S x.txs (by omega)) rfl ?_)) | (refine qcall_start ?_; first | (refine qcallFi (laws_eqInt64S x.txs (by omega)) rfl ?_ ?_; (focus ((first | exact rfl | (simp [pureV, flatV, blockE_val, blockE_sz]; done)))))) | (refine KV.run _ ?_) | (refine KQ.run _ ?_) | (refine KT.run _ ?_) | (refine AWp.seqH fun KC => ?_) | (refine AWp.block ?_) | (refine AWp.region ?_) | (refine mops_step0 rfl rfl fun KC => ?_) | (refine mops_step1 rfl fun KC => ?_) | (refine mops_step2 rfl fun KC => ?_) | (refine AWp.ret ?_) | (refine AWp.skip ?_) | (refine AWp.exit ?_) | (refine aops_callH rfl fun kC => ?_) | (refine qops_callH rfl fun kC => ?_) | (refine AWp.condB ?_) | (simp only [bse, wk, tys, storeH_ptr, Nat.reduceEqDiff, ↓reduceIte, reduceCtorEq, Nat.reduceAdd, Nat.reduceLeDiff, Int.reduceBEq, Int.reduceLT, Int.reduceLE, Int.reduceEq, ne_eq, not_false_eq_true, Nat.reduceMul, blockE_val, blockE_sz, *]) | (refine condK_bool (fun hb => ?_) (fun hb => ?_) <;> ((try simp only [Bool.not_eq_true', Bool.not_eq_false'] at hb) <;> (try (have hbe := of_decide_eq_true hb)) <;> (try (have hbe := eq_of_beq hb)))) | (refine aops_partB ?_) | (refine qops_partB ?_))
theorem mk_Block (x : TBlock) (hn : nBlock x ≤ 1048576) : MCalls Tryz.prog 32 33 (blockE.val x) (mBlock x) := by
  unfold nBlock at hn
  unfold mBlock
  intro H d S k ho hnd hk hk2
  rw [blockE_val] at ho
  obtain ⟨xs, rfl, o⟩ := OwnL.aggI ho
  clear ho
  obtain ⟨m_0, rfl, o_n1⟩ := OwnL.flatI o rfl
  obtain ⟨m_1, rfl, o_n2⟩ := OwnL.flatI o_n1 rfl
  obtain ⟨m_2, rfl, o_n3⟩ := OwnL.flatI o_n2 rfl
  obtain ⟨d_3, m_3, S_3, R_3, rfl, rfl, p_3, o_n4⟩ := OwnL.consI o_n3
  obtain ⟨a_3, n_3, v_3, rfl⟩ := OwnL.slD p_3
  obtain ⟨rfl, rfl⟩ := OwnL.nilI o_n4
  have hc : Cx H [(.slice a_3 n_3 v_3, islE intE x.txs, S_3)] [] := ⟨by intro o ho; simp only [List.mem_cons, List.not_mem_nil, or_false] at ho; rcases ho with rfl <;> first | exact p_3, by simpa using hnd, by simp⟩
  refine ACalls.enter (n := 10) (rs := [.tmp 4]) Tryz.func32 rfl rfl rfl (by kernel_rfl) (by kernel_rfl) (by kernel_rfl) (Nat.le_of_ble_eq_true rfl) ?_
  repeat' (first | (refine KV.run _ ?_) | (refine KQ.run _ ?_) | (refine KT.run _ ?_) | (refine AWp.seqH fun KC => ?_) | (refine AWp.block ?_) | (refine AWp.region ?_) | (refine mops_step0 rfl rfl fun KC => ?_) | (refine mops_step1 rfl fun KC => ?_) | (refine mops_step2 rfl fun KC => ?_) | (refine AWp.ret ?_) | (refine AWp.skip ?_) | (refine AWp.exit ?_) | (refine aops_callH rfl fun kC => ?_) | (refine qops_callH rfl fun kC => ?_) | (refine AWp.condB ?_) | (simp only [bse, wk, tys, storeH_ptr, Nat.reduceEqDiff, ↓reduceIte, reduceCtorEq, Nat.reduceAdd, Nat.reduceLeDiff, Int.reduceBEq, Int.reduceLT, Int.reduceLE, Int.reduceEq, ne_eq, not_false_eq_true, Nat.reduceMul, blockE_val, blockE_sz, *]) | (refine condK_bool (fun hb => ?_) (fun hb => ?_) <;> ((try simp only [Bool.not_eq_true', Bool.not_eq_false'] at hb) <;> (try (have hbe := of_decide_eq_true hb)) <;> (try (have hbe := eq_of_beq hb)))) | (refine aops_partB ?_) | (refine qops_partB ?_))
  refine ACalls.get (mk_Int64S x.txs (by omega) _ _ _ (k) ((hc.push _).get 0 rfl) (hc.getNd 0 rfl) (by omega) (by omega)) (by first | exact Nat.le_refl _ | exact Nat.zero_le _ | (simp only [List.length_append, List.length_cons, List.length_nil]; omega) | (simp only [List.length_set]; omega) | omega) (by first | exact Nat.le_refl _ | exact Nat.zero_le _ | (simp only [List.length_append, List.length_cons, List.length_nil]; omega) | (simp only [List.length_set]; omega) | omega) ?_
  rintro _ H0 ⟨rfl, hM0⟩
  obtain ⟨y0, hy0, hc0⟩ := (hc.push _).mark 0 rfl hM0
  have hb0 := hc0.bx 0 rfl
  repeat' (first | (refine KV.run _ ?_) | (refine KQ.run _ ?_) | (refine KT.run _ ?_) | (refine AWp.seqH fun KC => ?_) | (refine AWp.block ?_) | (refine AWp.region ?_) | (refine mops_step0 rfl rfl fun KC => ?_) | (refine mops_step1 rfl fun KC => ?_) | (refine mops_step2 rfl fun KC => ?_) | (refine AWp.ret ?_) | (refine AWp.skip ?_) | (refine AWp.exit ?_) | (refine aops_callH rfl fun kC => ?_) | (refine qops_callH rfl fun kC => ?_) | (refine AWp.condB ?_) | (simp only [bse, wk, tys, storeH_ptr, Nat.reduceEqDiff, ↓reduceIte, reduceCtorEq, Nat.reduceAdd, Nat.reduceLeDiff, Int.reduceBEq, Int.reduceLT, Int.reduceLE, Int.reduceEq, ne_eq, not_false_eq_true, Nat.reduceMul, blockE_val, blockE_sz, *]) | (refine condK_bool (fun hb => ?_) (fun hb => ?_) <;> ((try simp only [Bool.not_eq_true', Bool.not_eq_false'] at hb) <;> (try (have hbe := of_decide_eq_true hb)) <;> (try (have hbe := eq_of_beq hb)))) | (refine aops_partB ?_) | (refine qops_partB ?_))
  obtain ⟨k0, cs0, _, _, _, e0, _, _, _⟩ := OwnL.slY (hc0.get 0 rfl)
  cases e0
  haveI im0 : ImC (isl k0 cs0) := ⟨(hc0.get 0 rfl).im1⟩
  have hh : PCalls Tryz.prog 33 [.agg #[.int .i64 x.prev, .int .i64 x.height, .int .i64 x.miner, isl k0 cs0], .int .i64 k] (.int .i64 (k + ((x.txs.length : Nat) : Int))) := by
    have q0 : ¬ k + ((x.txs.length : Nat) : Int) < 0 := by omega
    refine PCalls.flat rfl ?_; refine ACalls.enter (n := 12) (rs := [.tmp 4]) Tryz.func33 rfl rfl rfl (by kernel_rfl) (by kernel_rfl) (by kernel_rfl) (Nat.le_of_ble_eq_true rfl) ?_
    repeat' (first | (refine ACalls.start ?_; first | (refine ACalls.ofJi (hy0) rfl ?_)) | (refine qcall_start ?_; first | (refine qcallFi (hy0) rfl ?_ ?_; (focus ((first | exact rfl | (simp [pureV, flatV, blockE_val, blockE_sz]; done)))))) | (refine KV.run _ ?_) | (refine KQ.run _ ?_) | (refine KT.run _ ?_) | (refine AWp.seqH fun KC => ?_) | (refine AWp.block ?_) | (refine AWp.region ?_) | (refine mops_step0 rfl rfl fun KC => ?_) | (refine mops_step1 rfl fun KC => ?_) | (refine mops_step2 rfl fun KC => ?_) | (refine AWp.ret ?_) | (refine AWp.skip ?_) | (refine AWp.exit ?_) | (refine aops_callH rfl fun kC => ?_) | (refine qops_callH rfl fun kC => ?_) | (refine AWp.condB ?_) | (simp only [bse, wk, tys, storeH_ptr, Nat.reduceEqDiff, ↓reduceIte, reduceCtorEq, Nat.reduceAdd, Nat.reduceLeDiff, Int.reduceBEq, Int.reduceLT, Int.reduceLE, Int.reduceEq, ne_eq, not_false_eq_true, Nat.reduceMul, blockE_val, blockE_sz, *]) | (refine condK_bool (fun hb => ?_) (fun hb => ?_) <;> ((try simp only [Bool.not_eq_true', Bool.not_eq_false'] at hb) <;> (try (have hbe := of_decide_eq_true hb)) <;> (try (have hbe := eq_of_beq hb)))) | (refine aops_partB ?_) | (refine qops_partB ?_))
  have ek : k + ((x.txs.length : Nat) : Int) = k + ((x.txs.length : Nat) : Int) := by omega
  rw [ek] at hh
  try rw [ek]
  try (refine And.intro ?_ ?_; focus (first | rfl | omega | (congr 1; omega)))
  refine ⟨by have := hM0.len; simp only [List.length_append, List.length_cons, List.length_nil] at *; omega, fun r hr hs => (hM0.old r (by have := hM0.len; simp only [List.length_append, List.length_cons, List.length_nil] at *; omega) (fun h => hs (by first | exact h | (simp at h ⊢; grind)))).trans (List.getElem?_append_left hr), _, ?_, hh⟩
  have hS : OwnL true H0 [.agg #[.int .i64 x.prev, .int .i64 x.height, .int .i64 x.miner, .slice a_3 n_3 v_3]] [.agg #[.int .i64 x.prev, .int .i64 x.height, .int .i64 x.miner, isl k0 cs0]] _ := OwnL.aggL (.flat rfl (.flat rfl (.flat rfl (OwnL.append (hc0.get 0 rfl) (.nil)))))
  first | exact hS | simpa using hS
def nBlockResult (x : TBlockResult) : Nat := nBlock x.block
def mBlockResult (x : TBlockResult) : Nat := mBlock x.block
def limBlockResult (x : TBlockResult) : Prop := limBlock x.block
theorem laws_eqBlockResult (x : TBlockResult) (hn : nBlockResult x ≤ 1048576) : PCalls Tryz.prog 9 [blockResultE.val x, blockResultE.val x] (.bool true) := by
  unfold nBlockResult at hn
  refine PCalls.flat rfl ?_; refine ACalls.enter (n := 16) (rs := [.tmp 4]) Tryz.func9 rfl rfl rfl (by kernel_rfl) (by kernel_rfl) (by kernel_rfl) (Nat.le_of_ble_eq_true rfl) ?_
  repeat' (first | (refine ACalls.start ?_; first | (refine ACalls.ofJi (laws_eqBlock x.block (by omega)) rfl ?_)) | (refine qcall_start ?_; first | (refine qcallFi (laws_eqBlock x.block (by omega)) rfl ?_ ?_; (focus ((first | exact rfl | (simp [pureV, flatV, blockE_val, blockE_sz, blockResultE_val, blockResultE_sz]; done)))))) | (refine KV.run _ ?_) | (refine KQ.run _ ?_) | (refine KT.run _ ?_) | (refine AWp.seqH fun KC => ?_) | (refine AWp.block ?_) | (refine AWp.region ?_) | (refine mops_step0 rfl rfl fun KC => ?_) | (refine mops_step1 rfl fun KC => ?_) | (refine mops_step2 rfl fun KC => ?_) | (refine AWp.ret ?_) | (refine AWp.skip ?_) | (refine AWp.exit ?_) | (refine aops_callH rfl fun kC => ?_) | (refine qops_callH rfl fun kC => ?_) | (refine AWp.condB ?_) | (simp only [bse, wk, tys, storeH_ptr, Nat.reduceEqDiff, ↓reduceIte, reduceCtorEq, Nat.reduceAdd, Nat.reduceLeDiff, Int.reduceBEq, Int.reduceLT, Int.reduceLE, Int.reduceEq, ne_eq, not_false_eq_true, Nat.reduceMul, blockE_val, blockE_sz, blockResultE_val, blockResultE_sz, *]) | (refine condK_bool (fun hb => ?_) (fun hb => ?_) <;> ((try simp only [Bool.not_eq_true', Bool.not_eq_false'] at hb) <;> (try (have hbe := of_decide_eq_true hb)) <;> (try (have hbe := eq_of_beq hb)))) | (refine aops_partB ?_) | (refine qops_partB ?_))
theorem mk_BlockResult (x : TBlockResult) (hn : nBlockResult x ≤ 1048576) : MCalls Tryz.prog 12 13 (blockResultE.val x) (mBlockResult x) := by
  unfold nBlockResult at hn
  unfold mBlockResult
  intro H d S k ho hnd hk hk2
  rw [blockResultE_val] at ho
  obtain ⟨xs, rfl, o⟩ := OwnL.aggI ho
  clear ho
  obtain ⟨m_0, rfl, o_n1⟩ := OwnL.flatI o rfl
  obtain ⟨m_1, rfl, o_n2⟩ := OwnL.flatI o_n1 rfl
  obtain ⟨m_2, rfl, o_n3⟩ := OwnL.flatI o_n2 rfl
  obtain ⟨m_3, rfl, o_n4⟩ := OwnL.flatI o_n3 rfl
  obtain ⟨d_4, m_4, S_4, R_4, rfl, rfl, p_4, o_n5⟩ := OwnL.consI o_n4
  obtain ⟨a_4, n_4, v_4, rfl⟩ := OwnL.slD p_4
  obtain ⟨rfl, rfl⟩ := OwnL.nilI o_n5
  have hc : Cx H [(.agg #[.int .i64 x.block.prev, .int .i64 x.block.height, .int .i64 x.block.miner, .slice a_4 n_4 v_4], blockE.val x.block, S_4 ++ ([]))] [] := ⟨by intro o ho; simp only [List.mem_cons, List.not_mem_nil, or_false] at ho; rcases ho with rfl <;> first | exact (OwnL.aggL (.flat rfl (.flat rfl (.flat rfl (OwnL.append p_4 (.nil)))))), by simpa using hnd, by simp⟩
  refine ACalls.enter (n := 10) (rs := [.tmp 4]) Tryz.func12 rfl rfl rfl (by kernel_rfl) (by kernel_rfl) (by kernel_rfl) (Nat.le_of_ble_eq_true rfl) ?_
  repeat' (first | (refine KV.run _ ?_) | (refine KQ.run _ ?_) | (refine KT.run _ ?_) | (refine AWp.seqH fun KC => ?_) | (refine AWp.block ?_) | (refine AWp.region ?_) | (refine mops_step0 rfl rfl fun KC => ?_) | (refine mops_step1 rfl fun KC => ?_) | (refine mops_step2 rfl fun KC => ?_) | (refine AWp.ret ?_) | (refine AWp.skip ?_) | (refine AWp.exit ?_) | (refine aops_callH rfl fun kC => ?_) | (refine qops_callH rfl fun kC => ?_) | (refine AWp.condB ?_) | (simp only [bse, wk, tys, storeH_ptr, Nat.reduceEqDiff, ↓reduceIte, reduceCtorEq, Nat.reduceAdd, Nat.reduceLeDiff, Int.reduceBEq, Int.reduceLT, Int.reduceLE, Int.reduceEq, ne_eq, not_false_eq_true, Nat.reduceMul, blockE_val, blockE_sz, blockResultE_val, blockResultE_sz, *]) | (refine condK_bool (fun hb => ?_) (fun hb => ?_) <;> ((try simp only [Bool.not_eq_true', Bool.not_eq_false'] at hb) <;> (try (have hbe := of_decide_eq_true hb)) <;> (try (have hbe := eq_of_beq hb)))) | (refine aops_partB ?_) | (refine qops_partB ?_))
  refine ACalls.get (mk_Block x.block (by omega) _ _ _ (k) ((hc.push _).get 0 rfl) (hc.getNd 0 rfl) (by omega) (by omega)) (by first | exact Nat.le_refl _ | exact Nat.zero_le _ | (simp only [List.length_append, List.length_cons, List.length_nil]; omega) | (simp only [List.length_set]; omega) | omega) (by first | exact Nat.le_refl _ | exact Nat.zero_le _ | (simp only [List.length_append, List.length_cons, List.length_nil]; omega) | (simp only [List.length_set]; omega) | omega) ?_
  rintro _ H0 ⟨rfl, hM0⟩
  obtain ⟨y0, hy0, hc0⟩ := (hc.push _).mark 0 rfl hM0
  have hb0 := hc0.bx 0 rfl
  repeat' (first | (refine KV.run _ ?_) | (refine KQ.run _ ?_) | (refine KT.run _ ?_) | (refine AWp.seqH fun KC => ?_) | (refine AWp.block ?_) | (refine AWp.region ?_) | (refine mops_step0 rfl rfl fun KC => ?_) | (refine mops_step1 rfl fun KC => ?_) | (refine mops_step2 rfl fun KC => ?_) | (refine AWp.ret ?_) | (refine AWp.skip ?_) | (refine AWp.exit ?_) | (refine aops_callH rfl fun kC => ?_) | (refine qops_callH rfl fun kC => ?_) | (refine AWp.condB ?_) | (simp only [bse, wk, tys, storeH_ptr, Nat.reduceEqDiff, ↓reduceIte, reduceCtorEq, Nat.reduceAdd, Nat.reduceLeDiff, Int.reduceBEq, Int.reduceLT, Int.reduceLE, Int.reduceEq, ne_eq, not_false_eq_true, Nat.reduceMul, blockE_val, blockE_sz, blockResultE_val, blockResultE_sz, *]) | (refine condK_bool (fun hb => ?_) (fun hb => ?_) <;> ((try simp only [Bool.not_eq_true', Bool.not_eq_false'] at hb) <;> (try (have hbe := of_decide_eq_true hb)) <;> (try (have hbe := eq_of_beq hb)))) | (refine aops_partB ?_) | (refine qops_partB ?_))
  obtain ⟨ys0, rfl, p0⟩ := OwnL.aggJ (hc0.get 0 rfl)
  obtain ⟨m_0_0, rfl, p0_n1⟩ := OwnL.flatJ p0 rfl (fun _ => by simp)
  obtain ⟨m_0_1, rfl, p0_n2⟩ := OwnL.flatJ p0_n1 rfl (fun _ => by simp)
  obtain ⟨m_0_2, rfl, p0_n3⟩ := OwnL.flatJ p0_n2 rfl (fun _ => by simp)
  obtain ⟨k_0_3, c_0_3, m_0_3, _, _, rfl, _, w_0_3, p0_n4⟩ := OwnL.slY p0_n3
  haveI im_0_3 : ImC (isl k_0_3 c_0_3) := ⟨w_0_3.im1⟩
  obtain ⟨rfl, _⟩ := OwnL.nilJ p0_n4
  have hh : PCalls Tryz.prog 13 [.agg #[.int .i64 x.code, .int .i64 x.block.prev, .int .i64 x.block.height, .int .i64 x.block.miner, isl k_0_3 c_0_3], .int .i64 k] (.int .i64 (k + ((mBlock x.block : Nat) : Int))) := by
    have q0 : ¬ k + ((mBlock x.block : Nat) : Int) < 0 := by omega
    refine PCalls.flat rfl ?_; refine ACalls.enter (n := 12) (rs := [.tmp 4]) Tryz.func13 rfl rfl rfl (by kernel_rfl) (by kernel_rfl) (by kernel_rfl) (Nat.le_of_ble_eq_true rfl) ?_
    repeat' (first | (refine ACalls.start ?_; first | (refine ACalls.ofJi (hy0) rfl ?_)) | (refine qcall_start ?_; first | (refine qcallFi (hy0) rfl ?_ ?_; (focus ((first | exact rfl | (simp [pureV, flatV, blockE_val, blockE_sz, blockResultE_val, blockResultE_sz]; done)))))) | (refine KV.run _ ?_) | (refine KQ.run _ ?_) | (refine KT.run _ ?_) | (refine AWp.seqH fun KC => ?_) | (refine AWp.block ?_) | (refine AWp.region ?_) | (refine mops_step0 rfl rfl fun KC => ?_) | (refine mops_step1 rfl fun KC => ?_) | (refine mops_step2 rfl fun KC => ?_) | (refine AWp.ret ?_) | (refine AWp.skip ?_) | (refine AWp.exit ?_) | (refine aops_callH rfl fun kC => ?_) | (refine qops_callH rfl fun kC => ?_) | (refine AWp.condB ?_) | (simp only [bse, wk, tys, storeH_ptr, Nat.reduceEqDiff, ↓reduceIte, reduceCtorEq, Nat.reduceAdd, Nat.reduceLeDiff, Int.reduceBEq, Int.reduceLT, Int.reduceLE, Int.reduceEq, ne_eq, not_false_eq_true, Nat.reduceMul, blockE_val, blockE_sz, blockResultE_val, blockResultE_sz, *]) | (refine condK_bool (fun hb => ?_) (fun hb => ?_) <;> ((try simp only [Bool.not_eq_true', Bool.not_eq_false'] at hb) <;> (try (have hbe := of_decide_eq_true hb)) <;> (try (have hbe := eq_of_beq hb)))) | (refine aops_partB ?_) | (refine qops_partB ?_))
  have ek : k + ((mBlock x.block : Nat) : Int) = k + ((mBlock x.block : Nat) : Int) := by omega
  rw [ek] at hh
  try rw [ek]
  try (refine And.intro ?_ ?_; focus (first | rfl | omega | (congr 1; omega)))
  refine ⟨by have := hM0.len; simp only [List.length_append, List.length_cons, List.length_nil] at *; omega, fun r hr hs => (hM0.old r (by have := hM0.len; simp only [List.length_append, List.length_cons, List.length_nil] at *; omega) (fun h => hs (by first | exact h | (simp at h ⊢; grind)))).trans (List.getElem?_append_left hr), _, ?_, hh⟩
  have hS : OwnL true H0 [.agg #[.int .i64 x.code, .int .i64 x.block.prev, .int .i64 x.block.height, .int .i64 x.block.miner, .slice a_4 n_4 v_4]] [.agg #[.int .i64 x.code, .int .i64 x.block.prev, .int .i64 x.block.height, .int .i64 x.block.miner, isl k_0_3 c_0_3]] _ := OwnL.aggL (.flat rfl (OwnL.append (OwnL.unagg (hc0.get 0 rfl)) (.nil)))
  first | exact hS | simpa using hS
end Go.BM
