/- Who owns what: slices and structs of the laws. -/
import Derived.Test.YtfggnccpbdfpeaaU1
import Derived.Test.YtfggnccpbdfpeaaU0
import Derived.Test.YtfggnccpbdfpeaaD1
set_option linter.unusedVariables false
set_option linter.unusedSimpArgs false
set_option maxRecDepth 100000
set_option maxHeartbeats 4000000
namespace Go.BM
open Go.Proofs Go.RowKit
attribute [local irreducible] ACalls AWp aops qops optK optP cK gateA condK mops qcallK PCalls loadV fldV idxV lenV slV storeH binS
def nQuorum (x : TQuorum) : Nat := x.keys.length
def mQuorum (x : TQuorum) : Nat := x.keys.length
def limQuorum (x : TQuorum) : Prop := x.keys.length ≤ 9223372036854775807
theorem laws_szQuorum (x : TQuorum) (k : Int) (hk : 0 ≤ k) (hk2 : k ≤ 4611686018427387904) (hl : limQuorum x) : PCalls Try.prog 61 [quorumE.val x, .int .i64 k] (.int .i64 (szI (nQuorum x) k)) := by
  have l0 := hl
  unfold nQuorum
  by_cases h0 : szI (x.keys.length) (k) < 0
  · rw [show szI (x.keys.length) k = -1 by unfold szI at *; (repeat' split at *) <;> omega]
    have e0 := szI_neg h0
    refine PCalls.flat rfl ?_; refine ACalls.enter (n := 12) (rs := [.tmp 4]) Try.func61 rfl rfl rfl (by kernel_rfl) (by kernel_rfl) (by kernel_rfl) (Nat.le_of_ble_eq_true rfl) ?_
    repeat' (first | (refine ACalls.start ?_; first | (refine ACalls.ofJi (laws_szInt64S x.keys (k) hk hk2 l0) rfl ?_)) | (refine qcall_start ?_; first | (refine qcallFi (laws_szInt64S x.keys (k) hk hk2 l0) rfl ?_ ?_; (focus ((first | exact rfl | (simp [pureV, flatV, quorumE_val, quorumE_sz]; done)))))) | (refine KV.run _ ?_) | (refine KQ.run _ ?_) | (refine KT.run _ ?_) | (refine AWp.seqH fun KC => ?_) | (refine AWp.block ?_) | (refine AWp.region ?_) | (refine mops_step0 rfl rfl fun KC => ?_) | (refine mops_step1 rfl fun KC => ?_) | (refine mops_step2 rfl fun KC => ?_) | (refine AWp.ret ?_) | (refine AWp.skip ?_) | (refine AWp.exit ?_) | (refine aops_callH rfl fun kC => ?_) | (refine qops_callH rfl fun kC => ?_) | (refine AWp.condB ?_) | (simp only [bse, wk, tys, storeH_ptr, Nat.reduceEqDiff, ↓reduceIte, reduceCtorEq, Nat.reduceAdd, Nat.reduceLeDiff, Int.reduceBEq, Int.reduceLT, Int.reduceLE, Int.reduceEq, ne_eq, not_false_eq_true, Nat.reduceMul, quorumE_val, quorumE_sz, *]) | (refine condK_bool (fun hb => ?_) (fun hb => ?_) <;> ((try simp only [Bool.not_eq_true', Bool.not_eq_false'] at hb) <;> (try (have hbe := of_decide_eq_true hb)) <;> (try (have hbe := eq_of_beq hb)))) | (refine aops_partB ?_) | (refine qops_partB ?_))
  · rw [show szI (x.keys.length) k = szI (x.keys.length) (k) by unfold szI at *; (repeat' split at *) <;> omega]
    refine PCalls.flat rfl ?_; refine ACalls.enter (n := 12) (rs := [.tmp 4]) Try.func61 rfl rfl rfl (by kernel_rfl) (by kernel_rfl) (by kernel_rfl) (Nat.le_of_ble_eq_true rfl) ?_
    repeat' (first | (refine ACalls.start ?_; first | (refine ACalls.ofJi (laws_szInt64S x.keys (k) hk hk2 l0) rfl ?_)) | (refine qcall_start ?_; first | (refine qcallFi (laws_szInt64S x.keys (k) hk hk2 l0) rfl ?_ ?_; (focus ((first | exact rfl | (simp [pureV, flatV, quorumE_val, quorumE_sz]; done)))))) | (refine KV.run _ ?_) | (refine KQ.run _ ?_) | (refine KT.run _ ?_) | (refine AWp.seqH fun KC => ?_) | (refine AWp.block ?_) | (refine AWp.region ?_) | (refine mops_step0 rfl rfl fun KC => ?_) | (refine mops_step1 rfl fun KC => ?_) | (refine mops_step2 rfl fun KC => ?_) | (refine AWp.ret ?_) | (refine AWp.skip ?_) | (refine AWp.exit ?_) | (refine aops_callH rfl fun kC => ?_) | (refine qops_callH rfl fun kC => ?_) | (refine AWp.condB ?_) | (simp only [bse, wk, tys, storeH_ptr, Nat.reduceEqDiff, ↓reduceIte, reduceCtorEq, Nat.reduceAdd, Nat.reduceLeDiff, Int.reduceBEq, Int.reduceLT, Int.reduceLE, Int.reduceEq, ne_eq, not_false_eq_true, Nat.reduceMul, quorumE_val, quorumE_sz, *]) | (refine condK_bool (fun hb => ?_) (fun hb => ?_) <;> ((try simp only [Bool.not_eq_true', Bool.not_eq_false'] at hb) <;> (try (have hbe := of_decide_eq_true hb)) <;> (try (have hbe := eq_of_beq hb)))) | (refine aops_partB ?_) | (refine qops_partB ?_))
theorem laws_eqQuorum (x : TQuorum) (hn : nQuorum x ≤ 1048576) : PCalls Try.prog 66 [quorumE.val x, quorumE.val x] (.bool true) := by
  unfold nQuorum at hn
  refine PCalls.flat rfl ?_; refine ACalls.enter (n := 16) (rs := [.tmp 4]) Try.func66 rfl rfl rfl (by kernel_rfl) (by kernel_rfl) (by kernel_rfl) (Nat.le_of_ble_eq_true rfl) ?_
  repeat' (first | (refine ACalls.start ?_; first | (refine ACalls.ofJi (laws_eqInt64S x.keys (by omega)) rfl ?_)) | (refine qcall_start ?_; first | (refine qcallFi (laws_eqInt64S x.keys (by omega)) rfl ?_ ?_; (focus ((first | exact rfl | (simp [pureV, flatV, quorumE_val, quorumE_sz]; done)))))) | (refine KV.run _ ?_) | (refine KQ.run _ ?_) | (refine KT.run _ ?_) | (refine AWp.seqH fun KC => ?_) | (refine AWp.block ?_) | (refine AWp.region ?_) | (refine mops_step0 rfl rfl fun KC => ?_) | (refine mops_step1 rfl fun KC => ?_) | (refine mops_step2 rfl fun KC => ?_) | (refine AWp.ret ?_) | (refine AWp.skip ?_) | (refine AWp.exit ?_) | (refine aops_callH rfl fun kC => ?_) | (refine qops_callH rfl fun kC => ?_) | (refine AWp.condB ?_) | (simp only [bse, wk, tys, storeH_ptr, Nat.reduceEqDiff, ↓reduceIte, reduceCtorEq, Nat.reduceAdd, Nat.reduceLeDiff, Int.reduceBEq, Int.reduceLT, Int.reduceLE, Int.reduceEq, ne_eq, not_false_eq_true, Nat.reduceMul, quorumE_val, quorumE_sz, *]) | (refine condK_bool (fun hb => ?_) (fun hb => ?_) <;> ((try simp only [Bool.not_eq_true', Bool.not_eq_false'] at hb) <;> (try (have hbe := of_decide_eq_true hb)) <;> (try (have hbe := eq_of_beq hb)))) | (refine aops_partB ?_) | (refine qops_partB ?_))
theorem own_toQuorum (x : TQuorum) (hn : nQuorum x ≤ 1048576) : NCalls Try.prog 63 [quorumE.val x] (quorumE.val x) := by
  unfold nQuorum at hn
  have hc := CxP.nil 3
  refine NCalls.of ?_; refine ACalls.enter (n := 12) (rs := [.cell 2 92]) Try.func63 rfl rfl rfl (by kernel_rfl) (by kernel_rfl) (by kernel_rfl) (Nat.le_of_ble_eq_true rfl) ?_
  repeat' (first | (refine KV.run _ ?_) | (refine KQ.run _ ?_) | (refine KT.run _ ?_) | (refine AWp.seqH fun KC => ?_) | (refine AWp.block ?_) | (refine AWp.region ?_) | (refine mops_step0 rfl rfl fun KC => ?_) | (refine mops_step1 rfl fun KC => ?_) | (refine mops_step2 rfl fun KC => ?_) | (refine AWp.ret ?_) | (refine AWp.skip ?_) | (refine AWp.exit ?_) | (refine aops_callH rfl fun kC => ?_) | (refine qops_callH rfl fun kC => ?_) | (refine AWp.condB ?_) | (simp only [bse, wk, tys, storeH_ptr, Nat.reduceEqDiff, ↓reduceIte, reduceCtorEq, Nat.reduceAdd, Nat.reduceLeDiff, Int.reduceBEq, Int.reduceLT, Int.reduceLE, Int.reduceEq, ne_eq, not_false_eq_true, Nat.reduceMul, quorumE_val, quorumE_sz, *]) | (refine condK_bool (fun hb => ?_) (fun hb => ?_) <;> ((try simp only [Bool.not_eq_true', Bool.not_eq_false'] at hb) <;> (try (have hbe := of_decide_eq_true hb)) <;> (try (have hbe := eq_of_beq hb)))) | (refine aops_partB ?_) | (refine qops_partB ?_))
  refine ACalls.get (NCalls.use (own_toInt64S x.keys (by omega)) (BorL.same (by repeat' (first | exact Im.nilL | refine Im.consL ?_ ?_ | refine Im.appL ?_ ?_ | exact Im.flat _ rfl | exact islE_im _ _ | exact Enc.val_im _ _ | assumption | refine Im.aggL ?_ | refine Im.funcL ?_ | refine Im.funcA ?_ | refine Im.isl ?_ | refine Im.ip ?_)))) (by first | exact Nat.le_refl _ | exact Nat.zero_le _ | (simp only [List.length_append, List.length_cons, List.length_nil]; omega) | (simp only [List.length_set]; omega) | omega) (by first | exact Nat.le_refl _ | exact Nat.zero_le _ | (simp only [List.length_append, List.length_cons, List.length_nil]; omega) | (simp only [List.length_set]; omega) | omega) ?_
  rintro d0 _ ⟨T0, hN0⟩
  obtain ⟨a0, n0, v0, rfl⟩ := hN0.own.slD
  obtain ⟨N0, rfl, hc⟩ := CxP.new hc [_, _, _] rfl hN0
  simp only [List.nil_append, List.cons_append] at hc
  clear hN0
  repeat' (first | (refine KV.run _ ?_) | (refine KQ.run _ ?_) | (refine KT.run _ ?_) | (refine AWp.seqH fun KC => ?_) | (refine AWp.block ?_) | (refine AWp.region ?_) | (refine mops_step0 rfl rfl fun KC => ?_) | (refine mops_step1 rfl fun KC => ?_) | (refine mops_step2 rfl fun KC => ?_) | (refine AWp.ret ?_) | (refine AWp.skip ?_) | (refine AWp.exit ?_) | (refine aops_callH rfl fun kC => ?_) | (refine qops_callH rfl fun kC => ?_) | (refine AWp.condB ?_) | (simp only [bse, wk, tys, storeH_ptr, Nat.reduceEqDiff, ↓reduceIte, reduceCtorEq, Nat.reduceAdd, Nat.reduceLeDiff, Int.reduceBEq, Int.reduceLT, Int.reduceLE, Int.reduceEq, ne_eq, not_false_eq_true, Nat.reduceMul, quorumE_val, quorumE_sz, *]) | (refine condK_bool (fun hb => ?_) (fun hb => ?_) <;> ((try simp only [Bool.not_eq_true', Bool.not_eq_false'] at hb) <;> (try (have hbe := of_decide_eq_true hb)) <;> (try (have hbe := eq_of_beq hb)))) | (refine aops_partB ?_) | (refine qops_partB ?_))
  exact CxP.out hc [_, _, _] rfl fun _ hf => ⟨_, by simpa using hf.nd, OwnL.aggL (OwnL.append (hf.get 0 rfl).loose (.flat rfl (.nil)))⟩
theorem laws_toQuorum (x : TQuorum) (hn : nQuorum x ≤ 1048576) : PCalls Try.prog 63 [quorumE.val x] (quorumE.val x) := (own_toQuorum x hn).p
theorem mk_Quorum (x : TQuorum) (hn : nQuorum x ≤ 1048576) : MCalls Try.prog 67 140 (quorumE.val x) (mQuorum x) := by
  unfold nQuorum at hn
  unfold mQuorum
  intro H d S k ho hnd hk hk2
  rw [quorumE_val] at ho
  obtain ⟨xs, rfl, o⟩ := OwnL.aggI ho
  clear ho
  obtain ⟨d_0, m_0, S_0, R_0, rfl, rfl, p_0, o_n1⟩ := OwnL.consI o
  obtain ⟨a_0, n_0, v_0, rfl⟩ := OwnL.slD p_0
  obtain ⟨m_1, rfl, o_n2⟩ := OwnL.flatI o_n1 rfl
  obtain ⟨rfl, rfl⟩ := OwnL.nilI o_n2
  have hc : Cx H [(.slice a_0 n_0 v_0, islE intE x.keys, S_0)] [] := ⟨by intro o ho; simp only [List.mem_cons, List.not_mem_nil, or_false] at ho; rcases ho with rfl <;> first | exact p_0, by simpa using hnd, by simp⟩
  refine ACalls.enter (n := 10) (rs := [.tmp 4]) Try.func67 rfl rfl rfl (by kernel_rfl) (by kernel_rfl) (by kernel_rfl) (Nat.le_of_ble_eq_true rfl) ?_
  repeat' (first | (refine KV.run _ ?_) | (refine KQ.run _ ?_) | (refine KT.run _ ?_) | (refine AWp.seqH fun KC => ?_) | (refine AWp.block ?_) | (refine AWp.region ?_) | (refine mops_step0 rfl rfl fun KC => ?_) | (refine mops_step1 rfl fun KC => ?_) | (refine mops_step2 rfl fun KC => ?_) | (refine AWp.ret ?_) | (refine AWp.skip ?_) | (refine AWp.exit ?_) | (refine aops_callH rfl fun kC => ?_) | (refine qops_callH rfl fun kC => ?_) | (refine AWp.condB ?_) | (simp only [bse, wk, tys, storeH_ptr, Nat.reduceEqDiff, ↓reduceIte, reduceCtorEq, Nat.reduceAdd, Nat.reduceLeDiff, Int.reduceBEq, Int.reduceLT, Int.reduceLE, Int.reduceEq, ne_eq, not_false_eq_true, Nat.reduceMul, quorumE_val, quorumE_sz, *]) | (refine condK_bool (fun hb => ?_) (fun hb => ?_) <;> ((try simp only [Bool.not_eq_true', Bool.not_eq_false'] at hb) <;> (try (have hbe := of_decide_eq_true hb)) <;> (try (have hbe := eq_of_beq hb)))) | (refine aops_partB ?_) | (refine qops_partB ?_))
  refine ACalls.get (mk_Int64S x.keys (by omega) _ _ _ (k) ((hc.push _).get 0 rfl) (hc.getNd 0 rfl) (by omega) (by omega)) (by first | exact Nat.le_refl _ | exact Nat.zero_le _ | (simp only [List.length_append, List.length_cons, List.length_nil]; omega) | (simp only [List.length_set]; omega) | omega) (by first | exact Nat.le_refl _ | exact Nat.zero_le _ | (simp only [List.length_append, List.length_cons, List.length_nil]; omega) | (simp only [List.length_set]; omega) | omega) ?_
  rintro _ H0 ⟨rfl, hM0⟩
  obtain ⟨y0, hy0, hc0⟩ := (hc.push _).mark 0 rfl hM0
  have hb0 := hc0.bx 0 rfl
  repeat' (first | (refine KV.run _ ?_) | (refine KQ.run _ ?_) | (refine KT.run _ ?_) | (refine AWp.seqH fun KC => ?_) | (refine AWp.block ?_) | (refine AWp.region ?_) | (refine mops_step0 rfl rfl fun KC => ?_) | (refine mops_step1 rfl fun KC => ?_) | (refine mops_step2 rfl fun KC => ?_) | (refine AWp.ret ?_) | (refine AWp.skip ?_) | (refine AWp.exit ?_) | (refine aops_callH rfl fun kC => ?_) | (refine qops_callH rfl fun kC => ?_) | (refine AWp.condB ?_) | (simp only [bse, wk, tys, storeH_ptr, Nat.reduceEqDiff, ↓reduceIte, reduceCtorEq, Nat.reduceAdd, Nat.reduceLeDiff, Int.reduceBEq, Int.reduceLT, Int.reduceLE, Int.reduceEq, ne_eq, not_false_eq_true, Nat.reduceMul, quorumE_val, quorumE_sz, *]) | (refine condK_bool (fun hb => ?_) (fun hb => ?_) <;> ((try simp only [Bool.not_eq_true', Bool.not_eq_false'] at hb) <;> (try (have hbe := of_decide_eq_true hb)) <;> (try (have hbe := eq_of_beq hb)))) | (refine aops_partB ?_) | (refine qops_partB ?_))
  obtain ⟨k0, cs0, _, _, _, e0, _, _, _⟩ := OwnL.slY (hc0.get 0 rfl)
  cases e0
  haveI im0 : ImC (isl k0 cs0) := ⟨(hc0.get 0 rfl).im1⟩
  have hh : PCalls Try.prog 140 [.agg #[isl k0 cs0, .int .i64 x.need], .int .i64 k] (.int .i64 (k + ((x.keys.length : Nat) : Int))) := by
    have q0 : ¬ k + ((x.keys.length : Nat) : Int) < 0 := by omega
    refine PCalls.flat rfl ?_; refine ACalls.enter (n := 12) (rs := [.tmp 4]) Try.func140 rfl rfl rfl (by kernel_rfl) (by kernel_rfl) (by kernel_rfl) (Nat.le_of_ble_eq_true rfl) ?_
    repeat' (first | (refine ACalls.start ?_; first | (refine ACalls.ofJi (hy0) rfl ?_)) | (refine qcall_start ?_; first | (refine qcallFi (hy0) rfl ?_ ?_; (focus ((first | exact rfl | (simp [pureV, flatV, quorumE_val, quorumE_sz]; done)))))) | (refine KV.run _ ?_) | (refine KQ.run _ ?_) | (refine KT.run _ ?_) | (refine AWp.seqH fun KC => ?_) | (refine AWp.block ?_) | (refine AWp.region ?_) | (refine mops_step0 rfl rfl fun KC => ?_) | (refine mops_step1 rfl fun KC => ?_) | (refine mops_step2 rfl fun KC => ?_) | (refine AWp.ret ?_) | (refine AWp.skip ?_) | (refine AWp.exit ?_) | (refine aops_callH rfl fun kC => ?_) | (refine qops_callH rfl fun kC => ?_) | (refine AWp.condB ?_) | (simp only [bse, wk, tys, storeH_ptr, Nat.reduceEqDiff, ↓reduceIte, reduceCtorEq, Nat.reduceAdd, Nat.reduceLeDiff, Int.reduceBEq, Int.reduceLT, Int.reduceLE, Int.reduceEq, ne_eq, not_false_eq_true, Nat.reduceMul, quorumE_val, quorumE_sz, *]) | (refine condK_bool (fun hb => ?_) (fun hb => ?_) <;> ((try simp only [Bool.not_eq_true', Bool.not_eq_false'] at hb) <;> (try (have hbe := of_decide_eq_true hb)) <;> (try (have hbe := eq_of_beq hb)))) | (refine aops_partB ?_) | (refine qops_partB ?_))
  have ek : k + ((x.keys.length : Nat) : Int) = k + ((x.keys.length : Nat) : Int) := by omega
  rw [ek] at hh
  try (refine And.intro ?_ ?_; focus (first | rfl | (congr 1; omega)))
  refine ⟨by have := hM0.len; simp only [List.length_append, List.length_cons, List.length_nil] at *; omega, fun r hr hs => (hM0.old r (by have := hM0.len; simp only [List.length_append, List.length_cons, List.length_nil] at *; omega) (fun h => hs (by first | exact h | (simp at h ⊢; grind)))).trans (List.getElem?_append_left hr), _, ?_, hh⟩
  have hS : OwnL true H0 [.agg #[.slice a_0 n_0 v_0, .int .i64 x.need]] [.agg #[isl k0 cs0, .int .i64 x.need]] _ := OwnL.aggL (OwnL.append (hc0.get 0 rfl) (.flat rfl (.nil)))
  first | exact hS | simpa using hS
def nVoter (x : TVoter) : Nat := x.choices.length
def mVoter (x : TVoter) : Nat := x.choices.length * 3
def limVoter (x : TVoter) : Prop := x.choices.length ≤ 9223372036854775807
theorem laws_szVoter (x : TVoter) (k : Int) (hk : 0 ≤ k) (hk2 : k ≤ 4611686018427387904) (hl : limVoter x) : PCalls Try.prog 37 [voterE.val x, .int .i64 k] (.int .i64 (szI (nVoter x) k)) := by
  have l0 := hl
  unfold nVoter
  by_cases h0 : szI (x.choices.length) (k) < 0
  · rw [show szI (x.choices.length) k = -1 by unfold szI at *; (repeat' split at *) <;> omega]
    have e0 := szI_neg h0
    refine PCalls.flat rfl ?_; refine ACalls.enter (n := 12) (rs := [.tmp 4]) Try.func37 rfl rfl rfl (by kernel_rfl) (by kernel_rfl) (by kernel_rfl) (Nat.le_of_ble_eq_true rfl) ?_
    repeat' (first | (refine ACalls.start ?_; first | (refine ACalls.ofJi (laws_szChoiceS x.choices (k) hk hk2 l0) rfl ?_)) | (refine qcall_start ?_; first | (refine qcallFi (laws_szChoiceS x.choices (k) hk hk2 l0) rfl ?_ ?_; (focus ((first | exact rfl | (simp [pureV, flatV, voterE_val, voterE_sz]; done)))))) | (refine KV.run _ ?_) | (refine KQ.run _ ?_) | (refine KT.run _ ?_) | (refine AWp.seqH fun KC => ?_) | (refine AWp.block ?_) | (refine AWp.region ?_) | (refine mops_step0 rfl rfl fun KC => ?_) | (refine mops_step1 rfl fun KC => ?_) | (refine mops_step2 rfl fun KC => ?_) | (refine AWp.ret ?_) | (refine AWp.skip ?_) | (refine AWp.exit ?_) | (refine aops_callH rfl fun kC => ?_) | (refine qops_callH rfl fun kC => ?_) | (refine AWp.condB ?_) | (simp only [bse, wk, tys, storeH_ptr, Nat.reduceEqDiff, ↓reduceIte, reduceCtorEq, Nat.reduceAdd, Nat.reduceLeDiff, Int.reduceBEq, Int.reduceLT, Int.reduceLE, Int.reduceEq, ne_eq, not_false_eq_true, Nat.reduceMul, voterE_val, voterE_sz, *]) | (refine condK_bool (fun hb => ?_) (fun hb => ?_) <;> ((try simp only [Bool.not_eq_true', Bool.not_eq_false'] at hb) <;> (try (have hbe := of_decide_eq_true hb)) <;> (try (have hbe := eq_of_beq hb)))) | (refine aops_partB ?_) | (refine qops_partB ?_))
  · rw [show szI (x.choices.length) k = szI (x.choices.length) (k) by unfold szI at *; (repeat' split at *) <;> omega]
    refine PCalls.flat rfl ?_; refine ACalls.enter (n := 12) (rs := [.tmp 4]) Try.func37 rfl rfl rfl (by kernel_rfl) (by kernel_rfl) (by kernel_rfl) (Nat.le_of_ble_eq_true rfl) ?_
    repeat' (first | (refine ACalls.start ?_; first | (refine ACalls.ofJi (laws_szChoiceS x.choices (k) hk hk2 l0) rfl ?_)) | (refine qcall_start ?_; first | (refine qcallFi (laws_szChoiceS x.choices (k) hk hk2 l0) rfl ?_ ?_; (focus ((first | exact rfl | (simp [pureV, flatV, voterE_val, voterE_sz]; done)))))) | (refine KV.run _ ?_) | (refine KQ.run _ ?_) | (refine KT.run _ ?_) | (refine AWp.seqH fun KC => ?_) | (refine AWp.block ?_) | (refine AWp.region ?_) | (refine mops_step0 rfl rfl fun KC => ?_) | (refine mops_step1 rfl fun KC => ?_) | (refine mops_step2 rfl fun KC => ?_) | (refine AWp.ret ?_) | (refine AWp.skip ?_) | (refine AWp.exit ?_) | (refine aops_callH rfl fun kC => ?_) | (refine qops_callH rfl fun kC => ?_) | (refine AWp.condB ?_) | (simp only [bse, wk, tys, storeH_ptr, Nat.reduceEqDiff, ↓reduceIte, reduceCtorEq, Nat.reduceAdd, Nat.reduceLeDiff, Int.reduceBEq, Int.reduceLT, Int.reduceLE, Int.reduceEq, ne_eq, not_false_eq_true, Nat.reduceMul, voterE_val, voterE_sz, *]) | (refine condK_bool (fun hb => ?_) (fun hb => ?_) <;> ((try simp only [Bool.not_eq_true', Bool.not_eq_false'] at hb) <;> (try (have hbe := of_decide_eq_true hb)) <;> (try (have hbe := eq_of_beq hb)))) | (refine aops_partB ?_) | (refine qops_partB ?_))
theorem laws_eqVoter (x : TVoter) (hn : nVoter x ≤ 1048576) : PCalls Try.prog 42 [voterE.val x, voterE.val x] (.bool true) := by
  unfold nVoter at hn
  refine PCalls.flat rfl ?_; refine ACalls.enter (n := 21) (rs := [.tmp 4]) Try.func42 rfl rfl rfl (by kernel_rfl) (by kernel_rfl) (by kernel_rfl) (Nat.le_of_ble_eq_true rfl) ?_
  repeat' (first | (refine ACalls.start ?_; first | (refine ACalls.ofJi (laws_eqChoiceS x.choices (by omega)) rfl ?_)) | (refine qcall_start ?_; first | (refine qcallFi (laws_eqChoiceS x.choices (by omega)) rfl ?_ ?_; (focus ((first | exact rfl | (simp [pureV, flatV, voterE_val, voterE_sz]; done)))))) | (refine KV.run _ ?_) | (refine KQ.run _ ?_) | (refine KT.run _ ?_) | (refine AWp.seqH fun KC => ?_) | (refine AWp.block ?_) | (refine AWp.region ?_) | (refine mops_step0 rfl rfl fun KC => ?_) | (refine mops_step1 rfl fun KC => ?_) | (refine mops_step2 rfl fun KC => ?_) | (refine AWp.ret ?_) | (refine AWp.skip ?_) | (refine AWp.exit ?_) | (refine aops_callH rfl fun kC => ?_) | (refine qops_callH rfl fun kC => ?_) | (refine AWp.condB ?_) | (simp only [bse, wk, tys, storeH_ptr, Nat.reduceEqDiff, ↓reduceIte, reduceCtorEq, Nat.reduceAdd, Nat.reduceLeDiff, Int.reduceBEq, Int.reduceLT, Int.reduceLE, Int.reduceEq, ne_eq, not_false_eq_true, Nat.reduceMul, voterE_val, voterE_sz, *]) | (refine condK_bool (fun hb => ?_) (fun hb => ?_) <;> ((try simp only [Bool.not_eq_true', Bool.not_eq_false'] at hb) <;> (try (have hbe := of_decide_eq_true hb)) <;> (try (have hbe := eq_of_beq hb)))) | (refine aops_partB ?_) | (refine qops_partB ?_))
theorem own_toVoter (x : TVoter) (hn : nVoter x ≤ 1048576) : NCalls Try.prog 39 [voterE.val x] (voterE.val x) := by
  unfold nVoter at hn
  have hc := CxP.nil 3
  refine NCalls.of ?_; refine ACalls.enter (n := 15) (rs := [.cell 2 64]) Try.func39 rfl rfl rfl (by kernel_rfl) (by kernel_rfl) (by kernel_rfl) (Nat.le_of_ble_eq_true rfl) ?_
  repeat' (first | (refine KV.run _ ?_) | (refine KQ.run _ ?_) | (refine KT.run _ ?_) | (refine AWp.seqH fun KC => ?_) | (refine AWp.block ?_) | (refine AWp.region ?_) | (refine mops_step0 rfl rfl fun KC => ?_) | (refine mops_step1 rfl fun KC => ?_) | (refine mops_step2 rfl fun KC => ?_) | (refine AWp.ret ?_) | (refine AWp.skip ?_) | (refine AWp.exit ?_) | (refine aops_callH rfl fun kC => ?_) | (refine qops_callH rfl fun kC => ?_) | (refine AWp.condB ?_) | (simp only [bse, wk, tys, storeH_ptr, Nat.reduceEqDiff, ↓reduceIte, reduceCtorEq, Nat.reduceAdd, Nat.reduceLeDiff, Int.reduceBEq, Int.reduceLT, Int.reduceLE, Int.reduceEq, ne_eq, not_false_eq_true, Nat.reduceMul, voterE_val, voterE_sz, *]) | (refine condK_bool (fun hb => ?_) (fun hb => ?_) <;> ((try simp only [Bool.not_eq_true', Bool.not_eq_false'] at hb) <;> (try (have hbe := of_decide_eq_true hb)) <;> (try (have hbe := eq_of_beq hb)))) | (refine aops_partB ?_) | (refine qops_partB ?_))
  refine ACalls.get (NCalls.use (own_toChoiceS x.choices (by omega)) (BorL.same (by repeat' (first | exact Im.nilL | refine Im.consL ?_ ?_ | refine Im.appL ?_ ?_ | exact Im.flat _ rfl | exact islE_im _ _ | exact Enc.val_im _ _ | assumption | refine Im.aggL ?_ | refine Im.funcL ?_ | refine Im.funcA ?_ | refine Im.isl ?_ | refine Im.ip ?_)))) (by first | exact Nat.le_refl _ | exact Nat.zero_le _ | (simp only [List.length_append, List.length_cons, List.length_nil]; omega) | (simp only [List.length_set]; omega) | omega) (by first | exact Nat.le_refl _ | exact Nat.zero_le _ | (simp only [List.length_append, List.length_cons, List.length_nil]; omega) | (simp only [List.length_set]; omega) | omega) ?_
  rintro d0 _ ⟨T0, hN0⟩
  obtain ⟨a0, n0, v0, rfl⟩ := hN0.own.slD
  obtain ⟨N0, rfl, hc⟩ := CxP.new hc [_, _, _] rfl hN0
  simp only [List.nil_append, List.cons_append] at hc
  clear hN0
  repeat' (first | (refine KV.run _ ?_) | (refine KQ.run _ ?_) | (refine KT.run _ ?_) | (refine AWp.seqH fun KC => ?_) | (refine AWp.block ?_) | (refine AWp.region ?_) | (refine mops_step0 rfl rfl fun KC => ?_) | (refine mops_step1 rfl fun KC => ?_) | (refine mops_step2 rfl fun KC => ?_) | (refine AWp.ret ?_) | (refine AWp.skip ?_) | (refine AWp.exit ?_) | (refine aops_callH rfl fun kC => ?_) | (refine qops_callH rfl fun kC => ?_) | (refine AWp.condB ?_) | (simp only [bse, wk, tys, storeH_ptr, Nat.reduceEqDiff, ↓reduceIte, reduceCtorEq, Nat.reduceAdd, Nat.reduceLeDiff, Int.reduceBEq, Int.reduceLT, Int.reduceLE, Int.reduceEq, ne_eq, not_false_eq_true, Nat.reduceMul, voterE_val, voterE_sz, *]) | (refine condK_bool (fun hb => ?_) (fun hb => ?_) <;> ((try simp only [Bool.not_eq_true', Bool.not_eq_false'] at hb) <;> (try (have hbe := of_decide_eq_true hb)) <;> (try (have hbe := eq_of_beq hb)))) | (refine aops_partB ?_) | (refine qops_partB ?_))
  exact CxP.out hc [_, _, _] rfl fun _ hf => ⟨_, by simpa using hf.nd, OwnL.aggL (.flat rfl (.flat rfl (OwnL.append (hf.get 0 rfl).loose (.nil))))⟩
theorem laws_toVoter (x : TVoter) (hn : nVoter x ≤ 1048576) : PCalls Try.prog 39 [voterE.val x] (voterE.val x) := (own_toVoter x hn).p
theorem mk_Voter (x : TVoter) (hn : nVoter x ≤ 1048576) : MCalls Try.prog 44 127 (voterE.val x) (mVoter x) := by
  unfold nVoter at hn
  unfold mVoter
  intro H d S k ho hnd hk hk2
  rw [voterE_val] at ho
  obtain ⟨xs, rfl, o⟩ := OwnL.aggI ho
  clear ho
  obtain ⟨m_0, rfl, o_n1⟩ := OwnL.flatI o rfl
  obtain ⟨m_1, rfl, o_n2⟩ := OwnL.flatI o_n1 rfl
  obtain ⟨d_2, m_2, S_2, R_2, rfl, rfl, p_2, o_n3⟩ := OwnL.consI o_n2
  obtain ⟨a_2, n_2, v_2, rfl⟩ := OwnL.slD p_2
  obtain ⟨rfl, rfl⟩ := OwnL.nilI o_n3
  have hc : Cx H [(.slice a_2 n_2 v_2, islE choiceE x.choices, S_2)] [] := ⟨by intro o ho; simp only [List.mem_cons, List.not_mem_nil, or_false] at ho; rcases ho with rfl <;> first | exact p_2, by simpa using hnd, by simp⟩
  refine ACalls.enter (n := 10) (rs := [.tmp 4]) Try.func44 rfl rfl rfl (by kernel_rfl) (by kernel_rfl) (by kernel_rfl) (Nat.le_of_ble_eq_true rfl) ?_
  repeat' (first | (refine KV.run _ ?_) | (refine KQ.run _ ?_) | (refine KT.run _ ?_) | (refine AWp.seqH fun KC => ?_) | (refine AWp.block ?_) | (refine AWp.region ?_) | (refine mops_step0 rfl rfl fun KC => ?_) | (refine mops_step1 rfl fun KC => ?_) | (refine mops_step2 rfl fun KC => ?_) | (refine AWp.ret ?_) | (refine AWp.skip ?_) | (refine AWp.exit ?_) | (refine aops_callH rfl fun kC => ?_) | (refine qops_callH rfl fun kC => ?_) | (refine AWp.condB ?_) | (simp only [bse, wk, tys, storeH_ptr, Nat.reduceEqDiff, ↓reduceIte, reduceCtorEq, Nat.reduceAdd, Nat.reduceLeDiff, Int.reduceBEq, Int.reduceLT, Int.reduceLE, Int.reduceEq, ne_eq, not_false_eq_true, Nat.reduceMul, voterE_val, voterE_sz, *]) | (refine condK_bool (fun hb => ?_) (fun hb => ?_) <;> ((try simp only [Bool.not_eq_true', Bool.not_eq_false'] at hb) <;> (try (have hbe := of_decide_eq_true hb)) <;> (try (have hbe := eq_of_beq hb)))) | (refine aops_partB ?_) | (refine qops_partB ?_))
  refine ACalls.get (mk_ChoiceS x.choices (by omega) _ _ _ (k) ((hc.push _).get 0 rfl) (hc.getNd 0 rfl) (by omega) (by omega)) (by first | exact Nat.le_refl _ | exact Nat.zero_le _ | (simp only [List.length_append, List.length_cons, List.length_nil]; omega) | (simp only [List.length_set]; omega) | omega) (by first | exact Nat.le_refl _ | exact Nat.zero_le _ | (simp only [List.length_append, List.length_cons, List.length_nil]; omega) | (simp only [List.length_set]; omega) | omega) ?_
  rintro _ H0 ⟨rfl, hM0⟩
  obtain ⟨y0, hy0, hc0⟩ := (hc.push _).mark 0 rfl hM0
  have hb0 := hc0.bx 0 rfl
  repeat' (first | (refine KV.run _ ?_) | (refine KQ.run _ ?_) | (refine KT.run _ ?_) | (refine AWp.seqH fun KC => ?_) | (refine AWp.block ?_) | (refine AWp.region ?_) | (refine mops_step0 rfl rfl fun KC => ?_) | (refine mops_step1 rfl fun KC => ?_) | (refine mops_step2 rfl fun KC => ?_) | (refine AWp.ret ?_) | (refine AWp.skip ?_) | (refine AWp.exit ?_) | (refine aops_callH rfl fun kC => ?_) | (refine qops_callH rfl fun kC => ?_) | (refine AWp.condB ?_) | (simp only [bse, wk, tys, storeH_ptr, Nat.reduceEqDiff, ↓reduceIte, reduceCtorEq, Nat.reduceAdd, Nat.reduceLeDiff, Int.reduceBEq, Int.reduceLT, Int.reduceLE, Int.reduceEq, ne_eq, not_false_eq_true, Nat.reduceMul, voterE_val, voterE_sz, *]) | (refine condK_bool (fun hb => ?_) (fun hb => ?_) <;> ((try simp only [Bool.not_eq_true', Bool.not_eq_false'] at hb) <;> (try (have hbe := of_decide_eq_true hb)) <;> (try (have hbe := eq_of_beq hb)))) | (refine aops_partB ?_) | (refine qops_partB ?_))
  obtain ⟨k0, cs0, _, _, _, e0, _, _, _⟩ := OwnL.slY (hc0.get 0 rfl)
  cases e0
  haveI im0 : ImC (isl k0 cs0) := ⟨(hc0.get 0 rfl).im1⟩
  have hh : PCalls Try.prog 127 [.agg #[.int .i64 x.key, .int .i64 x.last, isl k0 cs0], .int .i64 k] (.int .i64 (k + ((x.choices.length * 3 : Nat) : Int))) := by
    have q0 : ¬ k + ((x.choices.length * 3 : Nat) : Int) < 0 := by omega
    refine PCalls.flat rfl ?_; refine ACalls.enter (n := 12) (rs := [.tmp 4]) Try.func127 rfl rfl rfl (by kernel_rfl) (by kernel_rfl) (by kernel_rfl) (Nat.le_of_ble_eq_true rfl) ?_
    repeat' (first | (refine ACalls.start ?_; first | (refine ACalls.ofJi (hy0) rfl ?_)) | (refine qcall_start ?_; first | (refine qcallFi (hy0) rfl ?_ ?_; (focus ((first | exact rfl | (simp [pureV, flatV, voterE_val, voterE_sz]; done)))))) | (refine KV.run _ ?_) | (refine KQ.run _ ?_) | (refine KT.run _ ?_) | (refine AWp.seqH fun KC => ?_) | (refine AWp.block ?_) | (refine AWp.region ?_) | (refine mops_step0 rfl rfl fun KC => ?_) | (refine mops_step1 rfl fun KC => ?_) | (refine mops_step2 rfl fun KC => ?_) | (refine AWp.ret ?_) | (refine AWp.skip ?_) | (refine AWp.exit ?_) | (refine aops_callH rfl fun kC => ?_) | (refine qops_callH rfl fun kC => ?_) | (refine AWp.condB ?_) | (simp only [bse, wk, tys, storeH_ptr, Nat.reduceEqDiff, ↓reduceIte, reduceCtorEq, Nat.reduceAdd, Nat.reduceLeDiff, Int.reduceBEq, Int.reduceLT, Int.reduceLE, Int.reduceEq, ne_eq, not_false_eq_true, Nat.reduceMul, voterE_val, voterE_sz, *]) | (refine condK_bool (fun hb => ?_) (fun hb => ?_) <;> ((try simp only [Bool.not_eq_true', Bool.not_eq_false'] at hb) <;> (try (have hbe := of_decide_eq_true hb)) <;> (try (have hbe := eq_of_beq hb)))) | (refine aops_partB ?_) | (refine qops_partB ?_))
  have ek : k + ((x.choices.length * 3 : Nat) : Int) = k + ((x.choices.length * 3 : Nat) : Int) := by omega
  rw [ek] at hh
  try (refine And.intro ?_ ?_; focus (first | rfl | (congr 1; omega)))
  refine ⟨by have := hM0.len; simp only [List.length_append, List.length_cons, List.length_nil] at *; omega, fun r hr hs => (hM0.old r (by have := hM0.len; simp only [List.length_append, List.length_cons, List.length_nil] at *; omega) (fun h => hs (by first | exact h | (simp at h ⊢; grind)))).trans (List.getElem?_append_left hr), _, ?_, hh⟩
  have hS : OwnL true H0 [.agg #[.int .i64 x.key, .int .i64 x.last, .slice a_2 n_2 v_2]] [.agg #[.int .i64 x.key, .int .i64 x.last, isl k0 cs0]] _ := OwnL.aggL (.flat rfl (.flat rfl (OwnL.append (hc0.get 0 rfl) (.nil))))
  first | exact hS | simpa using hS
def nIntsResult (x : TIntsResult) : Nat := x.list.length
def mIntsResult (x : TIntsResult) : Nat := x.list.length
def limIntsResult (x : TIntsResult) : Prop := x.list.length ≤ 9223372036854775807
def nVoterResult (x : TVoterResult) : Nat := nVoter x.voter
def mVoterResult (x : TVoterResult) : Nat := mVoter x.voter
def limVoterResult (x : TVoterResult) : Prop := limVoter x.voter
theorem laws_eqVoterResult (x : TVoterResult) (hn : nVoterResult x ≤ 1048576) : PCalls Try.prog 40 [voterResultE.val x, voterResultE.val x] (.bool true) := by
  unfold nVoterResult at hn
  refine PCalls.flat rfl ?_; refine ACalls.enter (n := 22) (rs := [.tmp 4]) Try.func40 rfl rfl rfl (by kernel_rfl) (by kernel_rfl) (by kernel_rfl) (Nat.le_of_ble_eq_true rfl) ?_
  repeat' (first | (refine ACalls.start ?_; first | (refine ACalls.ofJi (laws_eqVote x.vote) rfl ?_) | (refine ACalls.ofJi (laws_eqVoter x.voter (by omega)) rfl ?_)) | (refine qcall_start ?_; first | (refine qcallFi (laws_eqVote x.vote) rfl ?_ ?_; (focus ((first | exact rfl | (simp [pureV, flatV, voteE_val, voteE_sz, voterE_val, voterE_sz, voterResultE_val, voterResultE_sz]; done))))) | (refine qcallFi (laws_eqVoter x.voter (by omega)) rfl ?_ ?_; (focus ((first | exact rfl | (simp [pureV, flatV, voteE_val, voteE_sz, voterE_val, voterE_sz, voterResultE_val, voterResultE_sz]; done)))))) | (refine KV.run _ ?_) | (refine KQ.run _ ?_) | (refine KT.run _ ?_) | (refine AWp.seqH fun KC => ?_) | (refine AWp.block ?_) | (refine AWp.region ?_) | (refine mops_step0 rfl rfl fun KC => ?_) | (refine mops_step1 rfl fun KC => ?_) | (refine mops_step2 rfl fun KC => ?_) | (refine AWp.ret ?_) | (refine AWp.skip ?_) | (refine AWp.exit ?_) | (refine aops_callH rfl fun kC => ?_) | (refine qops_callH rfl fun kC => ?_) | (refine AWp.condB ?_) | (simp only [bse, wk, tys, storeH_ptr, Nat.reduceEqDiff, ↓reduceIte, reduceCtorEq, Nat.reduceAdd, Nat.reduceLeDiff, Int.reduceBEq, Int.reduceLT, Int.reduceLE, Int.reduceEq, ne_eq, not_false_eq_true, Nat.reduceMul, voteE_val, voteE_sz, voterE_val, voterE_sz, voterResultE_val, voterResultE_sz, *]) | (refine condK_bool (fun hb => ?_) (fun hb => ?_) <;> ((try simp only [Bool.not_eq_true', Bool.not_eq_false'] at hb) <;> (try (have hbe := of_decide_eq_true hb)) <;> (try (have hbe := eq_of_beq hb)))) | (refine aops_partB ?_) | (refine qops_partB ?_))
theorem mk_VoterResult (x : TVoterResult) (hn : nVoterResult x ≤ 1048576) : MCalls Try.prog 45 46 (voterResultE.val x) (mVoterResult x) := by
  unfold nVoterResult at hn
  unfold mVoterResult
  intro H d S k ho hnd hk hk2
  rw [voterResultE_val] at ho
  obtain ⟨xs, rfl, o⟩ := OwnL.aggI ho
  clear ho
  obtain ⟨m_0, rfl, o_n1⟩ := OwnL.flatI o rfl
  obtain ⟨m_1, rfl, o_n2⟩ := OwnL.flatI o_n1 rfl
  obtain ⟨m_2, rfl, o_n3⟩ := OwnL.flatI o_n2 rfl
  obtain ⟨m_3, rfl, o_n4⟩ := OwnL.flatI o_n3 rfl
  obtain ⟨m_4, rfl, o_n5⟩ := OwnL.flatI o_n4 rfl
  obtain ⟨m_5, rfl, o_n6⟩ := OwnL.flatI o_n5 rfl
  obtain ⟨m_6, rfl, o_n7⟩ := OwnL.flatI o_n6 rfl
  obtain ⟨m_7, rfl, o_n8⟩ := OwnL.flatI o_n7 rfl
  obtain ⟨m_8, rfl, o_n9⟩ := OwnL.flatI o_n8 rfl
  obtain ⟨d_9, m_9, S_9, R_9, rfl, rfl, p_9, o_n10⟩ := OwnL.consI o_n9
  obtain ⟨a_9, n_9, v_9, rfl⟩ := OwnL.slD p_9
  obtain ⟨rfl, rfl⟩ := OwnL.nilI o_n10
  have hc : Cx H [(.agg #[.int .i64 x.voter.key, .int .i64 x.voter.last, .slice a_9 n_9 v_9], voterE.val x.voter, S_9 ++ ([]))] [] := ⟨by intro o ho; simp only [List.mem_cons, List.not_mem_nil, or_false] at ho; rcases ho with rfl <;> first | exact (OwnL.aggL (.flat rfl (.flat rfl (OwnL.append p_9 (.nil))))), by simpa using hnd, by simp⟩
  refine ACalls.enter (n := 10) (rs := [.tmp 4]) Try.func45 rfl rfl rfl (by kernel_rfl) (by kernel_rfl) (by kernel_rfl) (Nat.le_of_ble_eq_true rfl) ?_
  repeat' (first | (refine KV.run _ ?_) | (refine KQ.run _ ?_) | (refine KT.run _ ?_) | (refine AWp.seqH fun KC => ?_) | (refine AWp.block ?_) | (refine AWp.region ?_) | (refine mops_step0 rfl rfl fun KC => ?_) | (refine mops_step1 rfl fun KC => ?_) | (refine mops_step2 rfl fun KC => ?_) | (refine AWp.ret ?_) | (refine AWp.skip ?_) | (refine AWp.exit ?_) | (refine aops_callH rfl fun kC => ?_) | (refine qops_callH rfl fun kC => ?_) | (refine AWp.condB ?_) | (simp only [bse, wk, tys, storeH_ptr, Nat.reduceEqDiff, ↓reduceIte, reduceCtorEq, Nat.reduceAdd, Nat.reduceLeDiff, Int.reduceBEq, Int.reduceLT, Int.reduceLE, Int.reduceEq, ne_eq, not_false_eq_true, Nat.reduceMul, voteE_val, voteE_sz, voterE_val, voterE_sz, voterResultE_val, voterResultE_sz, *]) | (refine condK_bool (fun hb => ?_) (fun hb => ?_) <;> ((try simp only [Bool.not_eq_true', Bool.not_eq_false'] at hb) <;> (try (have hbe := of_decide_eq_true hb)) <;> (try (have hbe := eq_of_beq hb)))) | (refine aops_partB ?_) | (refine qops_partB ?_))
  refine ACalls.get (mk_Voter x.voter (by omega) _ _ _ (k) ((hc.push _).get 0 rfl) (hc.getNd 0 rfl) (by omega) (by omega)) (by first | exact Nat.le_refl _ | exact Nat.zero_le _ | (simp only [List.length_append, List.length_cons, List.length_nil]; omega) | (simp only [List.length_set]; omega) | omega) (by first | exact Nat.le_refl _ | exact Nat.zero_le _ | (simp only [List.length_append, List.length_cons, List.length_nil]; omega) | (simp only [List.length_set]; omega) | omega) ?_
  rintro _ H0 ⟨rfl, hM0⟩
  obtain ⟨y0, hy0, hc0⟩ := (hc.push _).mark 0 rfl hM0
  have hb0 := hc0.bx 0 rfl
  repeat' (first | (refine KV.run _ ?_) | (refine KQ.run _ ?_) | (refine KT.run _ ?_) | (refine AWp.seqH fun KC => ?_) | (refine AWp.block ?_) | (refine AWp.region ?_) | (refine mops_step0 rfl rfl fun KC => ?_) | (refine mops_step1 rfl fun KC => ?_) | (refine mops_step2 rfl fun KC => ?_) | (refine AWp.ret ?_) | (refine AWp.skip ?_) | (refine AWp.exit ?_) | (refine aops_callH rfl fun kC => ?_) | (refine qops_callH rfl fun kC => ?_) | (refine AWp.condB ?_) | (simp only [bse, wk, tys, storeH_ptr, Nat.reduceEqDiff, ↓reduceIte, reduceCtorEq, Nat.reduceAdd, Nat.reduceLeDiff, Int.reduceBEq, Int.reduceLT, Int.reduceLE, Int.reduceEq, ne_eq, not_false_eq_true, Nat.reduceMul, voteE_val, voteE_sz, voterE_val, voterE_sz, voterResultE_val, voterResultE_sz, *]) | (refine condK_bool (fun hb => ?_) (fun hb => ?_) <;> ((try simp only [Bool.not_eq_true', Bool.not_eq_false'] at hb) <;> (try (have hbe := of_decide_eq_true hb)) <;> (try (have hbe := eq_of_beq hb)))) | (refine aops_partB ?_) | (refine qops_partB ?_))
  obtain ⟨ys0, rfl, p0⟩ := OwnL.aggJ (hc0.get 0 rfl)
  obtain ⟨m_0_0, rfl, p0_n1⟩ := OwnL.flatJ p0 rfl (fun _ => by simp)
  obtain ⟨m_0_1, rfl, p0_n2⟩ := OwnL.flatJ p0_n1 rfl (fun _ => by simp)
  obtain ⟨k_0_2, c_0_2, m_0_2, _, _, rfl, _, w_0_2, p0_n3⟩ := OwnL.slY p0_n2
  haveI im_0_2 : ImC (isl k_0_2 c_0_2) := ⟨w_0_2.im1⟩
  obtain ⟨rfl, _⟩ := OwnL.nilJ p0_n3
  have hh : PCalls Try.prog 46 [.agg #[.int .i64 x.code, .int .i64 x.vote.key, .int .i64 x.vote.kind, .int .i64 x.vote.block, .int .i64 x.vote.ref.tx, .int .i64 x.vote.ref.at', .int .i64 x.vote.tx, .int .i64 x.voter.key, .int .i64 x.voter.last, isl k_0_2 c_0_2], .int .i64 k] (.int .i64 (k + ((mVoter x.voter : Nat) : Int))) := by
    have q0 : ¬ k + ((mVoter x.voter : Nat) : Int) < 0 := by omega
    refine PCalls.flat rfl ?_; refine ACalls.enter (n := 12) (rs := [.tmp 4]) Try.func46 rfl rfl rfl (by kernel_rfl) (by kernel_rfl) (by kernel_rfl) (Nat.le_of_ble_eq_true rfl) ?_
    repeat' (first | (refine ACalls.start ?_; first | (refine ACalls.ofJi (hy0) rfl ?_)) | (refine qcall_start ?_; first | (refine qcallFi (hy0) rfl ?_ ?_; (focus ((first | exact rfl | (simp [pureV, flatV, voteE_val, voteE_sz, voterE_val, voterE_sz, voterResultE_val, voterResultE_sz]; done)))))) | (refine KV.run _ ?_) | (refine KQ.run _ ?_) | (refine KT.run _ ?_) | (refine AWp.seqH fun KC => ?_) | (refine AWp.block ?_) | (refine AWp.region ?_) | (refine mops_step0 rfl rfl fun KC => ?_) | (refine mops_step1 rfl fun KC => ?_) | (refine mops_step2 rfl fun KC => ?_) | (refine AWp.ret ?_) | (refine AWp.skip ?_) | (refine AWp.exit ?_) | (refine aops_callH rfl fun kC => ?_) | (refine qops_callH rfl fun kC => ?_) | (refine AWp.condB ?_) | (simp only [bse, wk, tys, storeH_ptr, Nat.reduceEqDiff, ↓reduceIte, reduceCtorEq, Nat.reduceAdd, Nat.reduceLeDiff, Int.reduceBEq, Int.reduceLT, Int.reduceLE, Int.reduceEq, ne_eq, not_false_eq_true, Nat.reduceMul, voteE_val, voteE_sz, voterE_val, voterE_sz, voterResultE_val, voterResultE_sz, *]) | (refine condK_bool (fun hb => ?_) (fun hb => ?_) <;> ((try simp only [Bool.not_eq_true', Bool.not_eq_false'] at hb) <;> (try (have hbe := of_decide_eq_true hb)) <;> (try (have hbe := eq_of_beq hb)))) | (refine aops_partB ?_) | (refine qops_partB ?_))
  have ek : k + ((mVoter x.voter : Nat) : Int) = k + ((mVoter x.voter : Nat) : Int) := by omega
  rw [ek] at hh
  try (refine And.intro ?_ ?_; focus (first | rfl | (congr 1; omega)))
  refine ⟨by have := hM0.len; simp only [List.length_append, List.length_cons, List.length_nil] at *; omega, fun r hr hs => (hM0.old r (by have := hM0.len; simp only [List.length_append, List.length_cons, List.length_nil] at *; omega) (fun h => hs (by first | exact h | (simp at h ⊢; grind)))).trans (List.getElem?_append_left hr), _, ?_, hh⟩
  have hS : OwnL true H0 [.agg #[.int .i64 x.code, .int .i64 x.vote.key, .int .i64 x.vote.kind, .int .i64 x.vote.block, .int .i64 x.vote.ref.tx, .int .i64 x.vote.ref.at', .int .i64 x.vote.tx, .int .i64 x.voter.key, .int .i64 x.voter.last, .slice a_9 n_9 v_9]] [.agg #[.int .i64 x.code, .int .i64 x.vote.key, .int .i64 x.vote.kind, .int .i64 x.vote.block, .int .i64 x.vote.ref.tx, .int .i64 x.vote.ref.at', .int .i64 x.vote.tx, .int .i64 x.voter.key, .int .i64 x.voter.last, isl k_0_2 c_0_2]] _ := OwnL.aggL (.flat rfl (.flat rfl (.flat rfl (.flat rfl (.flat rfl (.flat rfl (.flat rfl (OwnL.append (OwnL.unagg (hc0.get 0 rfl)) (.nil)))))))))
  first | exact hS | simpa using hS
def nQuorumResult (x : TQuorumResult) : Nat := nQuorum x.quorum
def mQuorumResult (x : TQuorumResult) : Nat := mQuorum x.quorum
def limQuorumResult (x : TQuorumResult) : Prop := limQuorum x.quorum
theorem laws_eqQuorumResult (x : TQuorumResult) (hn : nQuorumResult x ≤ 1048576) : PCalls Try.prog 50 [quorumResultE.val x, quorumResultE.val x] (.bool true) := by
  unfold nQuorumResult at hn
  refine PCalls.flat rfl ?_; refine ACalls.enter (n := 16) (rs := [.tmp 4]) Try.func50 rfl rfl rfl (by kernel_rfl) (by kernel_rfl) (by kernel_rfl) (Nat.le_of_ble_eq_true rfl) ?_
  repeat' (first | (refine ACalls.start ?_; first | (refine ACalls.ofJi (laws_eqQuorum x.quorum (by omega)) rfl ?_)) | (refine qcall_start ?_; first | (refine qcallFi (laws_eqQuorum x.quorum (by omega)) rfl ?_ ?_; (focus ((first | exact rfl | (simp [pureV, flatV, quorumE_val, quorumE_sz, quorumResultE_val, quorumResultE_sz]; done)))))) | (refine KV.run _ ?_) | (refine KQ.run _ ?_) | (refine KT.run _ ?_) | (refine AWp.seqH fun KC => ?_) | (refine AWp.block ?_) | (refine AWp.region ?_) | (refine mops_step0 rfl rfl fun KC => ?_) | (refine mops_step1 rfl fun KC => ?_) | (refine mops_step2 rfl fun KC => ?_) | (refine AWp.ret ?_) | (refine AWp.skip ?_) | (refine AWp.exit ?_) | (refine aops_callH rfl fun kC => ?_) | (refine qops_callH rfl fun kC => ?_) | (refine AWp.condB ?_) | (simp only [bse, wk, tys, storeH_ptr, Nat.reduceEqDiff, ↓reduceIte, reduceCtorEq, Nat.reduceAdd, Nat.reduceLeDiff, Int.reduceBEq, Int.reduceLT, Int.reduceLE, Int.reduceEq, ne_eq, not_false_eq_true, Nat.reduceMul, quorumE_val, quorumE_sz, quorumResultE_val, quorumResultE_sz, *]) | (refine condK_bool (fun hb => ?_) (fun hb => ?_) <;> ((try simp only [Bool.not_eq_true', Bool.not_eq_false'] at hb) <;> (try (have hbe := of_decide_eq_true hb)) <;> (try (have hbe := eq_of_beq hb)))) | (refine aops_partB ?_) | (refine qops_partB ?_))
theorem mk_QuorumResult (x : TQuorumResult) (hn : nQuorumResult x ≤ 1048576) : MCalls Try.prog 53 54 (quorumResultE.val x) (mQuorumResult x) := by
  unfold nQuorumResult at hn
  unfold mQuorumResult
  intro H d S k ho hnd hk hk2
  rw [quorumResultE_val] at ho
  obtain ⟨xs, rfl, o⟩ := OwnL.aggI ho
  clear ho
  obtain ⟨m_0, rfl, o_n1⟩ := OwnL.flatI o rfl
  obtain ⟨d_1, m_1, S_1, R_1, rfl, rfl, p_1, o_n2⟩ := OwnL.consI o_n1
  obtain ⟨a_1, n_1, v_1, rfl⟩ := OwnL.slD p_1
  obtain ⟨m_2, rfl, o_n3⟩ := OwnL.flatI o_n2 rfl
  obtain ⟨rfl, rfl⟩ := OwnL.nilI o_n3
  have hc : Cx H [(.agg #[.slice a_1 n_1 v_1, .int .i64 x.quorum.need], quorumE.val x.quorum, S_1 ++ ([]))] [] := ⟨by intro o ho; simp only [List.mem_cons, List.not_mem_nil, or_false] at ho; rcases ho with rfl <;> first | exact (OwnL.aggL (OwnL.append p_1 (.flat rfl (.nil)))), by simpa using hnd, by simp⟩
  refine ACalls.enter (n := 10) (rs := [.tmp 4]) Try.func53 rfl rfl rfl (by kernel_rfl) (by kernel_rfl) (by kernel_rfl) (Nat.le_of_ble_eq_true rfl) ?_
  repeat' (first | (refine KV.run _ ?_) | (refine KQ.run _ ?_) | (refine KT.run _ ?_) | (refine AWp.seqH fun KC => ?_) | (refine AWp.block ?_) | (refine AWp.region ?_) | (refine mops_step0 rfl rfl fun KC => ?_) | (refine mops_step1 rfl fun KC => ?_) | (refine mops_step2 rfl fun KC => ?_) | (refine AWp.ret ?_) | (refine AWp.skip ?_) | (refine AWp.exit ?_) | (refine aops_callH rfl fun kC => ?_) | (refine qops_callH rfl fun kC => ?_) | (refine AWp.condB ?_) | (simp only [bse, wk, tys, storeH_ptr, Nat.reduceEqDiff, ↓reduceIte, reduceCtorEq, Nat.reduceAdd, Nat.reduceLeDiff, Int.reduceBEq, Int.reduceLT, Int.reduceLE, Int.reduceEq, ne_eq, not_false_eq_true, Nat.reduceMul, quorumE_val, quorumE_sz, quorumResultE_val, quorumResultE_sz, *]) | (refine condK_bool (fun hb => ?_) (fun hb => ?_) <;> ((try simp only [Bool.not_eq_true', Bool.not_eq_false'] at hb) <;> (try (have hbe := of_decide_eq_true hb)) <;> (try (have hbe := eq_of_beq hb)))) | (refine aops_partB ?_) | (refine qops_partB ?_))
  refine ACalls.get (mk_Quorum x.quorum (by omega) _ _ _ (k) ((hc.push _).get 0 rfl) (hc.getNd 0 rfl) (by omega) (by omega)) (by first | exact Nat.le_refl _ | exact Nat.zero_le _ | (simp only [List.length_append, List.length_cons, List.length_nil]; omega) | (simp only [List.length_set]; omega) | omega) (by first | exact Nat.le_refl _ | exact Nat.zero_le _ | (simp only [List.length_append, List.length_cons, List.length_nil]; omega) | (simp only [List.length_set]; omega) | omega) ?_
  rintro _ H0 ⟨rfl, hM0⟩
  obtain ⟨y0, hy0, hc0⟩ := (hc.push _).mark 0 rfl hM0
  have hb0 := hc0.bx 0 rfl
  repeat' (first | (refine KV.run _ ?_) | (refine KQ.run _ ?_) | (refine KT.run _ ?_) | (refine AWp.seqH fun KC => ?_) | (refine AWp.block ?_) | (refine AWp.region ?_) | (refine mops_step0 rfl rfl fun KC => ?_) | (refine mops_step1 rfl fun KC => ?_) | (refine mops_step2 rfl fun KC => ?_) | (refine AWp.ret ?_) | (refine AWp.skip ?_) | (refine AWp.exit ?_) | (refine aops_callH rfl fun kC => ?_) | (refine qops_callH rfl fun kC => ?_) | (refine AWp.condB ?_) | (simp only [bse, wk, tys, storeH_ptr, Nat.reduceEqDiff, ↓reduceIte, reduceCtorEq, Nat.reduceAdd, Nat.reduceLeDiff, Int.reduceBEq, Int.reduceLT, Int.reduceLE, Int.reduceEq, ne_eq, not_false_eq_true, Nat.reduceMul, quorumE_val, quorumE_sz, quorumResultE_val, quorumResultE_sz, *]) | (refine condK_bool (fun hb => ?_) (fun hb => ?_) <;> ((try simp only [Bool.not_eq_true', Bool.not_eq_false'] at hb) <;> (try (have hbe := of_decide_eq_true hb)) <;> (try (have hbe := eq_of_beq hb)))) | (refine aops_partB ?_) | (refine qops_partB ?_))
  obtain ⟨ys0, rfl, p0⟩ := OwnL.aggJ (hc0.get 0 rfl)
  obtain ⟨k_0_0, c_0_0, m_0_0, _, _, rfl, _, w_0_0, p0_n1⟩ := OwnL.slY p0
  haveI im_0_0 : ImC (isl k_0_0 c_0_0) := ⟨w_0_0.im1⟩
  obtain ⟨m_0_1, rfl, p0_n2⟩ := OwnL.flatJ p0_n1 rfl (fun _ => by simp)
  obtain ⟨rfl, _⟩ := OwnL.nilJ p0_n2
  have hh : PCalls Try.prog 54 [.agg #[.int .i64 x.code, isl k_0_0 c_0_0, .int .i64 x.quorum.need], .int .i64 k] (.int .i64 (k + ((mQuorum x.quorum : Nat) : Int))) := by
    have q0 : ¬ k + ((mQuorum x.quorum : Nat) : Int) < 0 := by omega
    refine PCalls.flat rfl ?_; refine ACalls.enter (n := 12) (rs := [.tmp 4]) Try.func54 rfl rfl rfl (by kernel_rfl) (by kernel_rfl) (by kernel_rfl) (Nat.le_of_ble_eq_true rfl) ?_
    repeat' (first | (refine ACalls.start ?_; first | (refine ACalls.ofJi (hy0) rfl ?_)) | (refine qcall_start ?_; first | (refine qcallFi (hy0) rfl ?_ ?_; (focus ((first | exact rfl | (simp [pureV, flatV, quorumE_val, quorumE_sz, quorumResultE_val, quorumResultE_sz]; done)))))) | (refine KV.run _ ?_) | (refine KQ.run _ ?_) | (refine KT.run _ ?_) | (refine AWp.seqH fun KC => ?_) | (refine AWp.block ?_) | (refine AWp.region ?_) | (refine mops_step0 rfl rfl fun KC => ?_) | (refine mops_step1 rfl fun KC => ?_) | (refine mops_step2 rfl fun KC => ?_) | (refine AWp.ret ?_) | (refine AWp.skip ?_) | (refine AWp.exit ?_) | (refine aops_callH rfl fun kC => ?_) | (refine qops_callH rfl fun kC => ?_) | (refine AWp.condB ?_) | (simp only [bse, wk, tys, storeH_ptr, Nat.reduceEqDiff, ↓reduceIte, reduceCtorEq, Nat.reduceAdd, Nat.reduceLeDiff, Int.reduceBEq, Int.reduceLT, Int.reduceLE, Int.reduceEq, ne_eq, not_false_eq_true, Nat.reduceMul, quorumE_val, quorumE_sz, quorumResultE_val, quorumResultE_sz, *]) | (refine condK_bool (fun hb => ?_) (fun hb => ?_) <;> ((try simp only [Bool.not_eq_true', Bool.not_eq_false'] at hb) <;> (try (have hbe := of_decide_eq_true hb)) <;> (try (have hbe := eq_of_beq hb)))) | (refine aops_partB ?_) | (refine qops_partB ?_))
  have ek : k + ((mQuorum x.quorum : Nat) : Int) = k + ((mQuorum x.quorum : Nat) : Int) := by omega
  rw [ek] at hh
  try (refine And.intro ?_ ?_; focus (first | rfl | (congr 1; omega)))
  refine ⟨by have := hM0.len; simp only [List.length_append, List.length_cons, List.length_nil] at *; omega, fun r hr hs => (hM0.old r (by have := hM0.len; simp only [List.length_append, List.length_cons, List.length_nil] at *; omega) (fun h => hs (by first | exact h | (simp at h ⊢; grind)))).trans (List.getElem?_append_left hr), _, ?_, hh⟩
  have hS : OwnL true H0 [.agg #[.int .i64 x.code, .slice a_1 n_1 v_1, .int .i64 x.quorum.need]] [.agg #[.int .i64 x.code, isl k_0_0 c_0_0, .int .i64 x.quorum.need]] _ := OwnL.aggL (.flat rfl (OwnL.append (OwnL.unagg (hc0.get 0 rfl)) (.nil)))
  first | exact hS | simpa using hS
def nTreeResult (x : TTreeResult) : Nat := x.tree.length
def mTreeResult (x : TTreeResult) : Nat := x.tree.length * 3
def limTreeResult (x : TTreeResult) : Prop := x.tree.length ≤ 9223372036854775807
def nIntResult (x : TIntResult) : Nat := 0
def mIntResult (x : TIntResult) : Nat := 0
def limIntResult (x : TIntResult) : Prop := True
end Go.BM
