/- TextOf: both sides. -/
import Derived.Test.YtfggnccpbdfpeaaT14
import Derived.Test.YtfggnccpbdfpeaaU3
set_option linter.unusedVariables false
set_option linter.unusedSimpArgs false
set_option maxRecDepth 100000
set_option maxHeartbeats 4000000
namespace Go.BM
open Go.Proofs Go.RowKit
attribute [local irreducible] ACalls AWp aops qops optK optP cK gateA condK mops qcallK PCalls loadV fldV idxV lenV slV storeH binS
def getS (xs : List ByteArray) (i : Int) : ByteArray := xs.getD (i - 1).toNat ⟨#[]⟩
def textOfF (l : TLedger) (id : Int) : TTextResult := if ledgerFault l == 0 then (if inB id 1 l.texts.length then ⟨0, getS l.texts id⟩ else ⟨3, ⟨#[]⟩⟩) else ⟨ledgerFault l, ⟨#[]⟩⟩
theorem inB_nat {id : Int} {n : Nat} (h : inB id 1 n = true) : ∃ k : Nat, k < n ∧ id = (k : Int) + 1 := by
  unfold inB at h
  simp at h
  exact ⟨(id - 1).toNat, by omega, by omega⟩
theorem getS_at {xs : List ByteArray} {k : Nat} (hk : k < xs.length) : getS xs ((k : Int) + 1) = xs[k] := by
  unfold getS
  rw [show ((k : Int) + 1 - 1).toNat = k by omega]
  simp [List.getD, List.getElem?_eq_getElem hk]
theorem impl_isInL (l : TLedger) (id : Int) : PCalls Try.prog 97 [ledgerE.val l, .int .i64 id] (.bool (inB id 1 l.texts.length)) := by
  refine PCalls.flat rfl ?_; refine ACalls.enter (n := 10) (rs := [.tmp 4]) Try.func97 rfl rfl rfl (by kernel_rfl) (by kernel_rfl) (by kernel_rfl) (Nat.le_of_ble_eq_true rfl) ?_
  repeat' (first | (refine ACalls.start ?_; first | (refine ACalls.ofJi (impl_within _ _ _) rfl ?_)) | (refine qcall_start ?_; first | (refine qcallFi (impl_within _ _ _) rfl ?_ ?_; (focus ((first | exact rfl | (simp [pureV, flatV, signE_val, signE_sz, ledgerE_val, ledgerE_sz, textResultE_val, textResultE_sz]; done)))))) | (refine KV.run _ ?_) | (refine KQ.run _ ?_) | (refine KT.run _ ?_) | (refine AWp.seqH fun KC => ?_) | (refine AWp.block ?_) | (refine AWp.region ?_) | (refine mops_step0 rfl rfl fun KC => ?_) | (refine mops_step1 rfl fun KC => ?_) | (refine mops_step2 rfl fun KC => ?_) | (refine AWp.ret ?_) | (refine AWp.skip ?_) | (refine AWp.exit ?_) | (refine aops_callH rfl fun kC => ?_) | (refine qops_callH rfl fun kC => ?_) | (refine AWp.condB ?_) | (simp only [bse, wk, tys, storeH_ptr, Nat.reduceEqDiff, ↓reduceIte, reduceCtorEq, Nat.reduceAdd, Nat.reduceLeDiff, Int.reduceBEq, Int.reduceLT, Int.reduceLE, Int.reduceEq, ne_eq, not_false_eq_true, Nat.reduceMul, signE_val, signE_sz, ledgerE_val, ledgerE_sz, textResultE_val, textResultE_sz, *]) | (refine condK_bool (fun hb => ?_) (fun hb => ?_) <;> ((try simp only [Bool.not_eq_true', Bool.not_eq_false'] at hb) <;> (try (have hbe := of_decide_eq_true hb)) <;> (try (have hbe := eq_of_beq hb)))) | (refine aops_partB ?_) | (refine qops_partB ?_))
theorem spec_l1Id (l : TLedger) (id : Int) : PCalls Try.prog 89 [ip [islE strE l.texts, islE signE l.signs], .int .i64 id] (.bool (inB id 1 l.texts.length)) := by
  refine PCalls.flat rfl ?_; refine ACalls.enter (n := 12) (rs := [.tmp 4]) Try.func89 rfl rfl rfl (by kernel_rfl) (by kernel_rfl) (by kernel_rfl) (Nat.le_of_ble_eq_true rfl) ?_
  repeat' (first | (refine ACalls.start ?_; first | (refine ACalls.ofJi (spec_l1In _ _ _) rfl ?_)) | (refine qcall_start ?_; first | (refine qcallFi (spec_l1In _ _ _) rfl ?_ ?_; (focus ((first | exact rfl | (simp [pureV, flatV, signE_val, signE_sz, ledgerE_val, ledgerE_sz, textResultE_val, textResultE_sz]; done)))))) | (refine KV.run _ ?_) | (refine KQ.run _ ?_) | (refine KT.run _ ?_) | (refine AWp.seqH fun KC => ?_) | (refine AWp.block ?_) | (refine AWp.region ?_) | (refine mops_step0 rfl rfl fun KC => ?_) | (refine mops_step1 rfl fun KC => ?_) | (refine mops_step2 rfl fun KC => ?_) | (refine AWp.ret ?_) | (refine AWp.skip ?_) | (refine AWp.exit ?_) | (refine aops_callH rfl fun kC => ?_) | (refine qops_callH rfl fun kC => ?_) | (refine AWp.condB ?_) | (simp only [bse, wk, tys, storeH_ptr, Nat.reduceEqDiff, ↓reduceIte, reduceCtorEq, Nat.reduceAdd, Nat.reduceLeDiff, Int.reduceBEq, Int.reduceLT, Int.reduceLE, Int.reduceEq, ne_eq, not_false_eq_true, Nat.reduceMul, signE_val, signE_sz, ledgerE_val, ledgerE_sz, textResultE_val, textResultE_sz, *]) | (refine condK_bool (fun hb => ?_) (fun hb => ?_) <;> ((try simp only [Bool.not_eq_true', Bool.not_eq_false'] at hb) <;> (try (have hbe := of_decide_eq_true hb)) <;> (try (have hbe := eq_of_beq hb)))) | (refine aops_partB ?_) | (refine qops_partB ?_))
end Go.BM
