/- Packed: T15, T22, U5, K15, K16, K17, K18, G6. -/
import Derived.Test.YtboephigjgncaaaGreatDoorZ3
import Derived.Test.YtboephigjgncaaaGreatDoorZ4
import Derived.Test.YtboephigjgncaaaGreatDoorZ5
/- TextOf: both sides. -/
set_option linter.unusedVariables false
set_option linter.unusedSimpArgs false
set_option maxRecDepth 100000
set_option maxHeartbeats 4000000
namespace Go.BM
open Go.Proofs Go.RowKit
attribute [local irreducible] ACalls AWp aops qops optK optP cK gateA condK mops qcallK PCalls loadV fldV idxV lenV slV storeH binS
def getS (xs : List ByteArray) (i : Int) : ByteArray := xs.getD (i - 1).toNat ⟨#[]⟩
def textOfF (l : TLedger) (id : Int) : TTextResult := if ledgerFault l == 0 then (if inB id 1 l.texts.length then ⟨0, getS l.texts id⟩ else ⟨3, ⟨#[]⟩⟩) else ⟨ledgerFault l, ⟨#[]⟩⟩
theorem inB_nat {id : Int} {n : Nat} (h : inB id 1 n = true) : ∃ k : Nat, k < n ∧ id = (k : Int) + 1 := by
  unfold inB at h
  simp at h
  exact ⟨(id - 1).toNat, by omega, by omega⟩
theorem getS_at {xs : List ByteArray} {k : Nat} (hk : k < xs.length) : getS xs ((k : Int) + 1) = xs[k] := by
  unfold getS
  rw [show ((k : Int) + 1 - 1).toNat = k by omega]
  simp [List.getD, List.getElem?_eq_getElem hk]
theorem impl_isInL (l : TLedger) (id : Int) : PCalls Tryz.prog 72 [ledgerE.val l, .int .i64 id] (.bool (inB id 1 l.texts.length)) := by
  refine PCalls.flat rfl ?_; refine ACalls.enter (n := 10) (rs := [.tmp 4]) Tryz.func72 rfl rfl rfl (by kernel_rfl) (by kernel_rfl) (by kernel_rfl) (Nat.le_of_ble_eq_true rfl) ?_
  repeat' (first | (refine ACalls.start ?_; first | (refine ACalls.ofJi (impl_within _ _ _) rfl ?_)) | (refine KV.run _ ?_) | (refine KT.run _ ?_) | (refine AWp.seqH fun KC => ?_) | (refine AWp.region ?_) | (refine AWp.ret ?_) | (refine aops_callH rfl fun kC => ?_) | (simp only [bse, wk, tys, storeH_ptr, Nat.reduceEqDiff, ↓reduceIte, reduceCtorEq, Nat.reduceAdd, Nat.reduceLeDiff, Int.reduceBEq, Int.reduceLT, Int.reduceLE, Int.reduceEq, ne_eq, not_false_eq_true, Nat.reduceMul, signE_val, signE_sz, ledgerE_val, ledgerE_sz, textResultE_val, textResultE_sz, *]))
theorem impl_textOf (l : TLedger) (id : Int) (h1 : l.texts.length ≤ 1048576) : PCalls Tryz.prog 48 [ledgerE.val l, .int .i64 id] (.tuple #[.string (if inB id 1 l.texts.length then getS l.texts id else ⟨#[]⟩), .int .i64 (if inB id 1 l.texts.length then 0 else 3)]) := by
  cases hc : inB id 1 l.texts.length <;> simp only [Bool.false_eq_true, if_true, if_false]
  · refine PCalls.val (by first | exact islE_im _ _ | exact Enc.val_im _ _ | exact Im.flat _ rfl | (repeat' (first | exact Im.nilL | refine Im.consL ?_ ?_ | exact Im.flat _ rfl | exact islE_im _ _ | exact Enc.val_im _ _ | refine Im.aggL ?_ | refine Im.tupleL ?_ | refine Im.isl ?_))) ?_; refine ACalls.enter (n := 16) (rs := [.tmp 4, .tmp 5]) Tryz.func48 rfl rfl rfl (by kernel_rfl) (by kernel_rfl) (by kernel_rfl) (Nat.le_of_ble_eq_true rfl) ?_
    repeat' (first | (refine ACalls.start ?_; first | (refine ACalls.ofJi (impl_isInL l _) rfl ?_)) | (refine KV.run _ ?_) | (refine KT.run _ ?_) | (refine AWp.seqH fun KC => ?_) | (refine AWp.region ?_) | (refine AWp.ret ?_) | (refine aops_callH rfl fun kC => ?_) | (refine AWp.condB ?_) | (simp only [bse, wk, tys, storeH_ptr, Nat.reduceEqDiff, ↓reduceIte, reduceCtorEq, Nat.reduceAdd, Nat.reduceLeDiff, Int.reduceBEq, Int.reduceLT, Int.reduceLE, Int.reduceEq, ne_eq, not_false_eq_true, Nat.reduceMul, signE_val, signE_sz, ledgerE_val, ledgerE_sz, textResultE_val, textResultE_sz, *]))
  · obtain ⟨k, hk, rfl⟩ := inB_nat hc
    rw [getS_at hk]
    have hw : IntKind.i64.wrap (((k : Nat) : Int) + 1 - 1) = (k : Int) := by rw [wr] <;> omega
    refine PCalls.val (by first | exact islE_im _ _ | exact Enc.val_im _ _ | exact Im.flat _ rfl | (repeat' (first | exact Im.nilL | refine Im.consL ?_ ?_ | exact Im.flat _ rfl | exact islE_im _ _ | exact Enc.val_im _ _ | refine Im.aggL ?_ | refine Im.tupleL ?_ | refine Im.isl ?_))) ?_; refine ACalls.enter (n := 16) (rs := [.tmp 4, .tmp 5]) Tryz.func48 rfl rfl rfl (by kernel_rfl) (by kernel_rfl) (by kernel_rfl) (Nat.le_of_ble_eq_true rfl) ?_
    repeat' (first | (refine ACalls.start ?_; first | (refine ACalls.ofJi (impl_isInL l _) rfl ?_)) | (refine KV.run _ ?_) | (refine KT.run _ ?_) | (refine AWp.seqH fun KC => ?_) | (refine AWp.region ?_) | (refine AWp.ret ?_) | (refine AWp.skip ?_) | (refine aops_callH rfl fun kC => ?_) | (refine AWp.condB ?_) | (simp only [bse, wk, tys, storeH_ptr, Nat.reduceEqDiff, ↓reduceIte, reduceCtorEq, Nat.reduceAdd, Nat.reduceLeDiff, Int.reduceBEq, Int.reduceLT, Int.reduceLE, Int.reduceEq, ne_eq, not_false_eq_true, Nat.reduceMul, signE_val, signE_sz, ledgerE_val, ledgerE_sz, textResultE_val, textResultE_sz, *]))
theorem spec_l1Id (l : TLedger) (id : Int) : PCalls Tryz.prog 40 [ip [islE strE l.texts, islE signE l.signs], .int .i64 id] (.bool (inB id 1 l.texts.length)) := by
  refine PCalls.flat rfl ?_; refine ACalls.enter (n := 12) (rs := [.tmp 4]) Tryz.func40 rfl rfl rfl (by kernel_rfl) (by kernel_rfl) (by kernel_rfl) (Nat.le_of_ble_eq_true rfl) ?_
  repeat' (first | (refine ACalls.start ?_; first | (refine ACalls.ofJi (spec_l1In _ _ _) rfl ?_)) | (refine KV.run _ ?_) | (refine KT.run _ ?_) | (refine AWp.seqH fun KC => ?_) | (refine AWp.region ?_) | (refine AWp.ret ?_) | (refine aops_callH rfl fun kC => ?_) | (simp only [bse, wk, tys, storeH_ptr, Nat.reduceEqDiff, ↓reduceIte, reduceCtorEq, Nat.reduceAdd, Nat.reduceLeDiff, Int.reduceBEq, Int.reduceLT, Int.reduceLE, Int.reduceEq, ne_eq, not_false_eq_true, Nat.reduceMul, signE_val, signE_sz, ledgerE_val, ledgerE_sz, textResultE_val, textResultE_sz, *]))
theorem spec_TextOf (l : TLedger) (id : Int) (h : nLedger l ≤ 1048576) : PCalls Tryz.prog 21 [ledgerE.val l, .int .i64 id] (textResultE.val (textOfF l id)) := by
  have h1 := nLedger_texts h
  have h2 := nLedger_signs h
  unfold textOfF
  cases hf : (ledgerFault l == 0) <;> simp only [Bool.false_eq_true, if_true, if_false]
  · refine PCalls.val (by first | exact islE_im _ _ | exact Enc.val_im _ _ | exact Im.flat _ rfl | (repeat' (first | exact Im.nilL | refine Im.consL ?_ ?_ | exact Im.flat _ rfl | exact islE_im _ _ | exact Enc.val_im _ _ | refine Im.aggL ?_ | refine Im.tupleL ?_ | refine Im.isl ?_))) ?_; refine ACalls.enter (n := 22) (rs := [.cell 4 54]) Tryz.func21 rfl rfl rfl (by kernel_rfl) (by kernel_rfl) (by kernel_rfl) (Nat.le_of_ble_eq_true rfl) ?_
    repeat' (first | (refine ACalls.start ?_; first | (refine ACalls.ofP (spec_l1Fault l h1 h2) ?_ ?_ ?_; (focus ((repeat' (first | exact BorL.nil | refine BorL.cons ?_ ?_ | exact Bor.same _ (by repeat' (first | exact Im.nilL | refine Im.consL ?_ ?_ | refine Im.appL ?_ ?_ | exact Im.flat _ rfl | exact islE_im _ _ | exact Enc.val_im _ _ | assumption | refine Im.aggL ?_ | refine Im.funcL ?_ | refine Im.funcA ?_ | refine Im.isl ?_ | refine Im.ip ?_)) | exact Bor.nil | exact Bor.sb (by first | (simp only [bse, wk, tys, storeH_ptr, Nat.reduceEqDiff, ↓reduceIte, reduceCtorEq, Nat.reduceAdd, Nat.reduceLeDiff, Int.reduceBEq, Int.reduceLT, Int.reduceLE, Int.reduceEq, ne_eq, not_false_eq_true, Nat.reduceMul, signE_val, signE_sz, ledgerE_val, ledgerE_sz, textResultE_val, textResultE_sz]; exact rfl) | (simp only [bse, wk, tys, storeH_ptr, Nat.reduceEqDiff, ↓reduceIte, reduceCtorEq, Nat.reduceAdd, Nat.reduceLeDiff, Int.reduceBEq, Int.reduceLT, Int.reduceLE, Int.reduceEq, ne_eq, not_false_eq_true, Nat.reduceMul, signE_val, signE_sz, ledgerE_val, ledgerE_sz, textResultE_val, textResultE_sz]; done) | (simp only [bse, wk, tys, storeH_ptr, Nat.reduceEqDiff, ↓reduceIte, reduceCtorEq, Nat.reduceAdd, Nat.reduceLeDiff, Int.reduceBEq, Int.reduceLT, Int.reduceLE, Int.reduceEq, ne_eq, not_false_eq_true, Nat.reduceMul, signE_val, signE_sz, ledgerE_val, ledgerE_sz, textResultE_val, textResultE_sz, *]; done)) (by first | exact fun _ => rfl | assumption | (intros; omega)) rfl | exact Bor.mks (by first | (simp only [bse, wk, tys, storeH_ptr, Nat.reduceEqDiff, ↓reduceIte, reduceCtorEq, Nat.reduceAdd, Nat.reduceLeDiff, Int.reduceBEq, Int.reduceLT, Int.reduceLE, Int.reduceEq, ne_eq, not_false_eq_true, Nat.reduceMul, signE_val, signE_sz, ledgerE_val, ledgerE_sz, textResultE_val, textResultE_sz]; exact rfl) | (simp only [bse, wk, tys, storeH_ptr, Nat.reduceEqDiff, ↓reduceIte, reduceCtorEq, Nat.reduceAdd, Nat.reduceLeDiff, Int.reduceBEq, Int.reduceLT, Int.reduceLE, Int.reduceEq, ne_eq, not_false_eq_true, Nat.reduceMul, signE_val, signE_sz, ledgerE_val, ledgerE_sz, textResultE_val, textResultE_sz]; done) | (simp only [bse, wk, tys, storeH_ptr, Nat.reduceEqDiff, ↓reduceIte, reduceCtorEq, Nat.reduceAdd, Nat.reduceLeDiff, Int.reduceBEq, Int.reduceLT, Int.reduceLE, Int.reduceEq, ne_eq, not_false_eq_true, Nat.reduceMul, signE_val, signE_sz, ledgerE_val, ledgerE_sz, textResultE_val, textResultE_sz, *]; done)) (by first | exact fun _ => rfl | assumption | (intros; omega)) (by intros; omega) | refine Bor.ptrL (by first | (simp only [bse, wk, tys, storeH_ptr, Nat.reduceEqDiff, ↓reduceIte, reduceCtorEq, Nat.reduceAdd, Nat.reduceLeDiff, Int.reduceBEq, Int.reduceLT, Int.reduceLE, Int.reduceEq, ne_eq, not_false_eq_true, Nat.reduceMul, signE_val, signE_sz, ledgerE_val, ledgerE_sz, textResultE_val, textResultE_sz]; exact rfl) | (simp only [bse, wk, tys, storeH_ptr, Nat.reduceEqDiff, ↓reduceIte, reduceCtorEq, Nat.reduceAdd, Nat.reduceLeDiff, Int.reduceBEq, Int.reduceLT, Int.reduceLE, Int.reduceEq, ne_eq, not_false_eq_true, Nat.reduceMul, signE_val, signE_sz, ledgerE_val, ledgerE_sz, textResultE_val, textResultE_sz]; done) | (simp only [bse, wk, tys, storeH_ptr, Nat.reduceEqDiff, ↓reduceIte, reduceCtorEq, Nat.reduceAdd, Nat.reduceLeDiff, Int.reduceBEq, Int.reduceLT, Int.reduceLE, Int.reduceEq, ne_eq, not_false_eq_true, Nat.reduceMul, signE_val, signE_sz, ledgerE_val, ledgerE_sz, textResultE_val, textResultE_sz, *]; done)) rfl rfl ⟨_, ?_, (by first | (simp only [bse, wk, tys, storeH_ptr, Nat.reduceEqDiff, ↓reduceIte, reduceCtorEq, Nat.reduceAdd, Nat.reduceLeDiff, Int.reduceBEq, Int.reduceLT, Int.reduceLE, Int.reduceEq, ne_eq, not_false_eq_true, Nat.reduceMul, signE_val, signE_sz, ledgerE_val, ledgerE_sz, textResultE_val, textResultE_sz]; exact rfl) | (simp only [bse, wk, tys, storeH_ptr, Nat.reduceEqDiff, ↓reduceIte, reduceCtorEq, Nat.reduceAdd, Nat.reduceLeDiff, Int.reduceBEq, Int.reduceLT, Int.reduceLE, Int.reduceEq, ne_eq, not_false_eq_true, Nat.reduceMul, signE_val, signE_sz, ledgerE_val, ledgerE_sz, textResultE_val, textResultE_sz]; done) | (simp only [bse, wk, tys, storeH_ptr, Nat.reduceEqDiff, ↓reduceIte, reduceCtorEq, Nat.reduceAdd, Nat.reduceLeDiff, Int.reduceBEq, Int.reduceLT, Int.reduceLE, Int.reduceEq, ne_eq, not_false_eq_true, Nat.reduceMul, signE_val, signE_sz, ledgerE_val, ledgerE_sz, textResultE_val, textResultE_sz, *]; done))⟩ (by simp) | refine Bor.aggL ?_ | refine Bor.funcL ?_)); done)); (focus ((first | exact rfl | (simp [pureV, flatV, signE_val, signE_sz, ledgerE_val, ledgerE_sz, textResultE_val, textResultE_sz]; done)))))) | (refine KV.run _ ?_) | (refine KT.run _ ?_) | (refine AWp.seqH fun KC => ?_) | (refine AWp.region ?_) | (refine AWp.ret ?_) | (refine aops_callH rfl fun kC => ?_) | (refine AWp.condB ?_) | (simp only [bse, wk, tys, storeH_ptr, Nat.reduceEqDiff, ↓reduceIte, reduceCtorEq, Nat.reduceAdd, Nat.reduceLeDiff, Int.reduceBEq, Int.reduceLT, Int.reduceLE, Int.reduceEq, ne_eq, not_false_eq_true, Nat.reduceMul, signE_val, signE_sz, ledgerE_val, ledgerE_sz, textResultE_val, textResultE_sz, *]))
  · cases hc : inB id 1 l.texts.length <;> simp only [Bool.false_eq_true, if_true, if_false]
    · refine PCalls.val (by first | exact islE_im _ _ | exact Enc.val_im _ _ | exact Im.flat _ rfl | (repeat' (first | exact Im.nilL | refine Im.consL ?_ ?_ | exact Im.flat _ rfl | exact islE_im _ _ | exact Enc.val_im _ _ | refine Im.aggL ?_ | refine Im.tupleL ?_ | refine Im.isl ?_))) ?_; refine ACalls.enter (n := 22) (rs := [.cell 4 54]) Tryz.func21 rfl rfl rfl (by kernel_rfl) (by kernel_rfl) (by kernel_rfl) (Nat.le_of_ble_eq_true rfl) ?_
      repeat' (first | (refine ACalls.start ?_; first | (refine ACalls.ofP (spec_l1Fault l h1 h2) ?_ ?_ ?_; (focus ((repeat' (first | exact BorL.nil | refine BorL.cons ?_ ?_ | exact Bor.same _ (by repeat' (first | exact Im.nilL | refine Im.consL ?_ ?_ | refine Im.appL ?_ ?_ | exact Im.flat _ rfl | exact islE_im _ _ | exact Enc.val_im _ _ | assumption | refine Im.aggL ?_ | refine Im.funcL ?_ | refine Im.funcA ?_ | refine Im.isl ?_ | refine Im.ip ?_)) | exact Bor.nil | exact Bor.sb (by first | (simp only [bse, wk, tys, storeH_ptr, Nat.reduceEqDiff, ↓reduceIte, reduceCtorEq, Nat.reduceAdd, Nat.reduceLeDiff, Int.reduceBEq, Int.reduceLT, Int.reduceLE, Int.reduceEq, ne_eq, not_false_eq_true, Nat.reduceMul, signE_val, signE_sz, ledgerE_val, ledgerE_sz, textResultE_val, textResultE_sz]; exact rfl) | (simp only [bse, wk, tys, storeH_ptr, Nat.reduceEqDiff, ↓reduceIte, reduceCtorEq, Nat.reduceAdd, Nat.reduceLeDiff, Int.reduceBEq, Int.reduceLT, Int.reduceLE, Int.reduceEq, ne_eq, not_false_eq_true, Nat.reduceMul, signE_val, signE_sz, ledgerE_val, ledgerE_sz, textResultE_val, textResultE_sz]; done) | (simp only [bse, wk, tys, storeH_ptr, Nat.reduceEqDiff, ↓reduceIte, reduceCtorEq, Nat.reduceAdd, Nat.reduceLeDiff, Int.reduceBEq, Int.reduceLT, Int.reduceLE, Int.reduceEq, ne_eq, not_false_eq_true, Nat.reduceMul, signE_val, signE_sz, ledgerE_val, ledgerE_sz, textResultE_val, textResultE_sz, *]; done)) (by first | exact fun _ => rfl | assumption | (intros; omega)) rfl | exact Bor.mks (by first | (simp only [bse, wk, tys, storeH_ptr, Nat.reduceEqDiff, ↓reduceIte, reduceCtorEq, Nat.reduceAdd, Nat.reduceLeDiff, Int.reduceBEq, Int.reduceLT, Int.reduceLE, Int.reduceEq, ne_eq, not_false_eq_true, Nat.reduceMul, signE_val, signE_sz, ledgerE_val, ledgerE_sz, textResultE_val, textResultE_sz]; exact rfl) | (simp only [bse, wk, tys, storeH_ptr, Nat.reduceEqDiff, ↓reduceIte, reduceCtorEq, Nat.reduceAdd, Nat.reduceLeDiff, Int.reduceBEq, Int.reduceLT, Int.reduceLE, Int.reduceEq, ne_eq, not_false_eq_true, Nat.reduceMul, signE_val, signE_sz, ledgerE_val, ledgerE_sz, textResultE_val, textResultE_sz]; done) | (simp only [bse, wk, tys, storeH_ptr, Nat.reduceEqDiff, ↓reduceIte, reduceCtorEq, Nat.reduceAdd, Nat.reduceLeDiff, Int.reduceBEq, Int.reduceLT, Int.reduceLE, Int.reduceEq, ne_eq, not_false_eq_true, Nat.reduceMul, signE_val, signE_sz, ledgerE_val, ledgerE_sz, textResultE_val, textResultE_sz, *]; done)) (by first | exact fun _ => rfl | assumption | (intros; omega)) (by intros; omega) | refine Bor.ptrL (by first | (simp only [bse, wk, tys, storeH_ptr, Nat.reduceEqDiff, ↓reduceIte, reduceCtorEq, Nat.reduceAdd, Nat.reduceLeDiff, Int.reduceBEq, Int.reduceLT, Int.reduceLE, Int.reduceEq, ne_eq, not_false_eq_true, Nat.reduceMul, signE_val, signE_sz, ledgerE_val, ledgerE_sz, textResultE_val, textResultE_sz]; exact rfl) | (simp only [bse, wk, tys, storeH_ptr, Nat.reduceEqDiff, ↓reduceIte, reduceCtorEq, Nat.reduceAdd, Nat.reduceLeDiff, Int.reduceBEq, Int.reduceLT, Int.reduceLE, Int.reduceEq, ne_eq, not_false_eq_true, Nat.reduceMul, signE_val, signE_sz, ledgerE_val, ledgerE_sz, textResultE_val, textResultE_sz]; done) | (simp only [bse, wk, tys, storeH_ptr, Nat.reduceEqDiff, ↓reduceIte, reduceCtorEq, Nat.reduceAdd, Nat.reduceLeDiff, Int.reduceBEq, Int.reduceLT, Int.reduceLE, Int.reduceEq, ne_eq, not_false_eq_true, Nat.reduceMul, signE_val, signE_sz, ledgerE_val, ledgerE_sz, textResultE_val, textResultE_sz, *]; done)) rfl rfl ⟨_, ?_, (by first | (simp only [bse, wk, tys, storeH_ptr, Nat.reduceEqDiff, ↓reduceIte, reduceCtorEq, Nat.reduceAdd, Nat.reduceLeDiff, Int.reduceBEq, Int.reduceLT, Int.reduceLE, Int.reduceEq, ne_eq, not_false_eq_true, Nat.reduceMul, signE_val, signE_sz, ledgerE_val, ledgerE_sz, textResultE_val, textResultE_sz]; exact rfl) | (simp only [bse, wk, tys, storeH_ptr, Nat.reduceEqDiff, ↓reduceIte, reduceCtorEq, Nat.reduceAdd, Nat.reduceLeDiff, Int.reduceBEq, Int.reduceLT, Int.reduceLE, Int.reduceEq, ne_eq, not_false_eq_true, Nat.reduceMul, signE_val, signE_sz, ledgerE_val, ledgerE_sz, textResultE_val, textResultE_sz]; done) | (simp only [bse, wk, tys, storeH_ptr, Nat.reduceEqDiff, ↓reduceIte, reduceCtorEq, Nat.reduceAdd, Nat.reduceLeDiff, Int.reduceBEq, Int.reduceLT, Int.reduceLE, Int.reduceEq, ne_eq, not_false_eq_true, Nat.reduceMul, signE_val, signE_sz, ledgerE_val, ledgerE_sz, textResultE_val, textResultE_sz, *]; done))⟩ (by simp) | refine Bor.aggL ?_ | refine Bor.funcL ?_)); done)); (focus ((first | exact rfl | (simp [pureV, flatV, signE_val, signE_sz, ledgerE_val, ledgerE_sz, textResultE_val, textResultE_sz]; done))))) | (refine ACalls.ofP (spec_l1Id l id) ?_ ?_ ?_; (focus ((repeat' (first | exact BorL.nil | refine BorL.cons ?_ ?_ | exact Bor.same _ (by repeat' (first | exact Im.nilL | refine Im.consL ?_ ?_ | refine Im.appL ?_ ?_ | exact Im.flat _ rfl | exact islE_im _ _ | exact Enc.val_im _ _ | assumption | refine Im.aggL ?_ | refine Im.funcL ?_ | refine Im.funcA ?_ | refine Im.isl ?_ | refine Im.ip ?_)) | exact Bor.nil | exact Bor.sb (by first | (simp only [bse, wk, tys, storeH_ptr, Nat.reduceEqDiff, ↓reduceIte, reduceCtorEq, Nat.reduceAdd, Nat.reduceLeDiff, Int.reduceBEq, Int.reduceLT, Int.reduceLE, Int.reduceEq, ne_eq, not_false_eq_true, Nat.reduceMul, signE_val, signE_sz, ledgerE_val, ledgerE_sz, textResultE_val, textResultE_sz]; exact rfl) | (simp only [bse, wk, tys, storeH_ptr, Nat.reduceEqDiff, ↓reduceIte, reduceCtorEq, Nat.reduceAdd, Nat.reduceLeDiff, Int.reduceBEq, Int.reduceLT, Int.reduceLE, Int.reduceEq, ne_eq, not_false_eq_true, Nat.reduceMul, signE_val, signE_sz, ledgerE_val, ledgerE_sz, textResultE_val, textResultE_sz]; done) | (simp only [bse, wk, tys, storeH_ptr, Nat.reduceEqDiff, ↓reduceIte, reduceCtorEq, Nat.reduceAdd, Nat.reduceLeDiff, Int.reduceBEq, Int.reduceLT, Int.reduceLE, Int.reduceEq, ne_eq, not_false_eq_true, Nat.reduceMul, signE_val, signE_sz, ledgerE_val, ledgerE_sz, textResultE_val, textResultE_sz, *]; done)) (by first | exact fun _ => rfl | assumption | (intros; omega)) rfl | exact Bor.mks (by first | (simp only [bse, wk, tys, storeH_ptr, Nat.reduceEqDiff, ↓reduceIte, reduceCtorEq, Nat.reduceAdd, Nat.reduceLeDiff, Int.reduceBEq, Int.reduceLT, Int.reduceLE, Int.reduceEq, ne_eq, not_false_eq_true, Nat.reduceMul, signE_val, signE_sz, ledgerE_val, ledgerE_sz, textResultE_val, textResultE_sz]; exact rfl) | (simp only [bse, wk, tys, storeH_ptr, Nat.reduceEqDiff, ↓reduceIte, reduceCtorEq, Nat.reduceAdd, Nat.reduceLeDiff, Int.reduceBEq, Int.reduceLT, Int.reduceLE, Int.reduceEq, ne_eq, not_false_eq_true, Nat.reduceMul, signE_val, signE_sz, ledgerE_val, ledgerE_sz, textResultE_val, textResultE_sz]; done) | (simp only [bse, wk, tys, storeH_ptr, Nat.reduceEqDiff, ↓reduceIte, reduceCtorEq, Nat.reduceAdd, Nat.reduceLeDiff, Int.reduceBEq, Int.reduceLT, Int.reduceLE, Int.reduceEq, ne_eq, not_false_eq_true, Nat.reduceMul, signE_val, signE_sz, ledgerE_val, ledgerE_sz, textResultE_val, textResultE_sz, *]; done)) (by first | exact fun _ => rfl | assumption | (intros; omega)) (by intros; omega) | refine Bor.ptrL (by first | (simp only [bse, wk, tys, storeH_ptr, Nat.reduceEqDiff, ↓reduceIte, reduceCtorEq, Nat.reduceAdd, Nat.reduceLeDiff, Int.reduceBEq, Int.reduceLT, Int.reduceLE, Int.reduceEq, ne_eq, not_false_eq_true, Nat.reduceMul, signE_val, signE_sz, ledgerE_val, ledgerE_sz, textResultE_val, textResultE_sz]; exact rfl) | (simp only [bse, wk, tys, storeH_ptr, Nat.reduceEqDiff, ↓reduceIte, reduceCtorEq, Nat.reduceAdd, Nat.reduceLeDiff, Int.reduceBEq, Int.reduceLT, Int.reduceLE, Int.reduceEq, ne_eq, not_false_eq_true, Nat.reduceMul, signE_val, signE_sz, ledgerE_val, ledgerE_sz, textResultE_val, textResultE_sz]; done) | (simp only [bse, wk, tys, storeH_ptr, Nat.reduceEqDiff, ↓reduceIte, reduceCtorEq, Nat.reduceAdd, Nat.reduceLeDiff, Int.reduceBEq, Int.reduceLT, Int.reduceLE, Int.reduceEq, ne_eq, not_false_eq_true, Nat.reduceMul, signE_val, signE_sz, ledgerE_val, ledgerE_sz, textResultE_val, textResultE_sz, *]; done)) rfl rfl ⟨_, ?_, (by first | (simp only [bse, wk, tys, storeH_ptr, Nat.reduceEqDiff, ↓reduceIte, reduceCtorEq, Nat.reduceAdd, Nat.reduceLeDiff, Int.reduceBEq, Int.reduceLT, Int.reduceLE, Int.reduceEq, ne_eq, not_false_eq_true, Nat.reduceMul, signE_val, signE_sz, ledgerE_val, ledgerE_sz, textResultE_val, textResultE_sz]; exact rfl) | (simp only [bse, wk, tys, storeH_ptr, Nat.reduceEqDiff, ↓reduceIte, reduceCtorEq, Nat.reduceAdd, Nat.reduceLeDiff, Int.reduceBEq, Int.reduceLT, Int.reduceLE, Int.reduceEq, ne_eq, not_false_eq_true, Nat.reduceMul, signE_val, signE_sz, ledgerE_val, ledgerE_sz, textResultE_val, textResultE_sz]; done) | (simp only [bse, wk, tys, storeH_ptr, Nat.reduceEqDiff, ↓reduceIte, reduceCtorEq, Nat.reduceAdd, Nat.reduceLeDiff, Int.reduceBEq, Int.reduceLT, Int.reduceLE, Int.reduceEq, ne_eq, not_false_eq_true, Nat.reduceMul, signE_val, signE_sz, ledgerE_val, ledgerE_sz, textResultE_val, textResultE_sz, *]; done))⟩ (by simp) | refine Bor.aggL ?_ | refine Bor.funcL ?_)); done)); (focus ((first | exact rfl | (simp [pureV, flatV, signE_val, signE_sz, ledgerE_val, ledgerE_sz, textResultE_val, textResultE_sz]; done)))))) | (refine KV.run _ ?_) | (refine KT.run _ ?_) | (refine AWp.seqH fun KC => ?_) | (refine AWp.region ?_) | (refine AWp.ret ?_) | (refine AWp.skip ?_) | (refine aops_callH rfl fun kC => ?_) | (refine AWp.condB ?_) | (simp only [bse, wk, tys, storeH_ptr, Nat.reduceEqDiff, ↓reduceIte, reduceCtorEq, Nat.reduceAdd, Nat.reduceLeDiff, Int.reduceBEq, Int.reduceLT, Int.reduceLE, Int.reduceEq, ne_eq, not_false_eq_true, Nat.reduceMul, signE_val, signE_sz, ledgerE_val, ledgerE_sz, textResultE_val, textResultE_sz, *]))
    · obtain ⟨k, hk, rfl⟩ := inB_nat hc
      rw [getS_at hk]
      have hw : IntKind.i64.wrap (((k : Nat) : Int) + 1 - 1) = (k : Int) := by rw [wr] <;> omega
      refine PCalls.val (by first | exact islE_im _ _ | exact Enc.val_im _ _ | exact Im.flat _ rfl | (repeat' (first | exact Im.nilL | refine Im.consL ?_ ?_ | exact Im.flat _ rfl | exact islE_im _ _ | exact Enc.val_im _ _ | refine Im.aggL ?_ | refine Im.tupleL ?_ | refine Im.isl ?_))) ?_; refine ACalls.enter (n := 22) (rs := [.cell 4 54]) Tryz.func21 rfl rfl rfl (by kernel_rfl) (by kernel_rfl) (by kernel_rfl) (Nat.le_of_ble_eq_true rfl) ?_
      repeat' (first | (refine ACalls.start ?_; first | (refine ACalls.ofP (spec_l1Fault l h1 h2) ?_ ?_ ?_; (focus ((repeat' (first | exact BorL.nil | refine BorL.cons ?_ ?_ | exact Bor.same _ (by repeat' (first | exact Im.nilL | refine Im.consL ?_ ?_ | refine Im.appL ?_ ?_ | exact Im.flat _ rfl | exact islE_im _ _ | exact Enc.val_im _ _ | assumption | refine Im.aggL ?_ | refine Im.funcL ?_ | refine Im.funcA ?_ | refine Im.isl ?_ | refine Im.ip ?_)) | exact Bor.nil | exact Bor.sb (by first | (simp only [bse, wk, tys, storeH_ptr, Nat.reduceEqDiff, ↓reduceIte, reduceCtorEq, Nat.reduceAdd, Nat.reduceLeDiff, Int.reduceBEq, Int.reduceLT, Int.reduceLE, Int.reduceEq, ne_eq, not_false_eq_true, Nat.reduceMul, signE_val, signE_sz, ledgerE_val, ledgerE_sz, textResultE_val, textResultE_sz]; exact rfl) | (simp only [bse, wk, tys, storeH_ptr, Nat.reduceEqDiff, ↓reduceIte, reduceCtorEq, Nat.reduceAdd, Nat.reduceLeDiff, Int.reduceBEq, Int.reduceLT, Int.reduceLE, Int.reduceEq, ne_eq, not_false_eq_true, Nat.reduceMul, signE_val, signE_sz, ledgerE_val, ledgerE_sz, textResultE_val, textResultE_sz]; done) | (simp only [bse, wk, tys, storeH_ptr, Nat.reduceEqDiff, ↓reduceIte, reduceCtorEq, Nat.reduceAdd, Nat.reduceLeDiff, Int.reduceBEq, Int.reduceLT, Int.reduceLE, Int.reduceEq, ne_eq, not_false_eq_true, Nat.reduceMul, signE_val, signE_sz, ledgerE_val, ledgerE_sz, textResultE_val, textResultE_sz, *]; done)) (by first | exact fun _ => rfl | assumption | (intros; omega)) rfl | exact Bor.mks (by first | (simp only [bse, wk, tys, storeH_ptr, Nat.reduceEqDiff, ↓reduceIte, reduceCtorEq, Nat.reduceAdd, Nat.reduceLeDiff, Int.reduceBEq, Int.reduceLT, Int.reduceLE, Int.reduceEq, ne_eq, not_false_eq_true, Nat.reduceMul, signE_val, signE_sz, ledgerE_val, ledgerE_sz, textResultE_val, textResultE_sz]; exact rfl) | (simp only [bse, wk, tys, storeH_ptr, Nat.reduceEqDiff, ↓reduceIte, reduceCtorEq, Nat.reduceAdd, Nat.reduceLeDiff, Int.reduceBEq, Int.reduceLT, Int.reduceLE, Int.reduceEq, ne_eq, not_false_eq_true, Nat.reduceMul, signE_val, signE_sz, ledgerE_val, ledgerE_sz, textResultE_val, textResultE_sz]; done) | (simp only [bse, wk, tys, storeH_ptr, Nat.reduceEqDiff, ↓reduceIte, reduceCtorEq, Nat.reduceAdd, Nat.reduceLeDiff, Int.reduceBEq, Int.reduceLT, Int.reduceLE, Int.reduceEq, ne_eq, not_false_eq_true, Nat.reduceMul, signE_val, signE_sz, ledgerE_val, ledgerE_sz, textResultE_val, textResultE_sz, *]; done)) (by first | exact fun _ => rfl | assumption | (intros; omega)) (by intros; omega) | refine Bor.ptrL (by first | (simp only [bse, wk, tys, storeH_ptr, Nat.reduceEqDiff, ↓reduceIte, reduceCtorEq, Nat.reduceAdd, Nat.reduceLeDiff, Int.reduceBEq, Int.reduceLT, Int.reduceLE, Int.reduceEq, ne_eq, not_false_eq_true, Nat.reduceMul, signE_val, signE_sz, ledgerE_val, ledgerE_sz, textResultE_val, textResultE_sz]; exact rfl) | (simp only [bse, wk, tys, storeH_ptr, Nat.reduceEqDiff, ↓reduceIte, reduceCtorEq, Nat.reduceAdd, Nat.reduceLeDiff, Int.reduceBEq, Int.reduceLT, Int.reduceLE, Int.reduceEq, ne_eq, not_false_eq_true, Nat.reduceMul, signE_val, signE_sz, ledgerE_val, ledgerE_sz, textResultE_val, textResultE_sz]; done) | (simp only [bse, wk, tys, storeH_ptr, Nat.reduceEqDiff, ↓reduceIte, reduceCtorEq, Nat.reduceAdd, Nat.reduceLeDiff, Int.reduceBEq, Int.reduceLT, Int.reduceLE, Int.reduceEq, ne_eq, not_false_eq_true, Nat.reduceMul, signE_val, signE_sz, ledgerE_val, ledgerE_sz, textResultE_val, textResultE_sz, *]; done)) rfl rfl ⟨_, ?_, (by first | (simp only [bse, wk, tys, storeH_ptr, Nat.reduceEqDiff, ↓reduceIte, reduceCtorEq, Nat.reduceAdd, Nat.reduceLeDiff, Int.reduceBEq, Int.reduceLT, Int.reduceLE, Int.reduceEq, ne_eq, not_false_eq_true, Nat.reduceMul, signE_val, signE_sz, ledgerE_val, ledgerE_sz, textResultE_val, textResultE_sz]; exact rfl) | (simp only [bse, wk, tys, storeH_ptr, Nat.reduceEqDiff, ↓reduceIte, reduceCtorEq, Nat.reduceAdd, Nat.reduceLeDiff, Int.reduceBEq, Int.reduceLT, Int.reduceLE, Int.reduceEq, ne_eq, not_false_eq_true, Nat.reduceMul, signE_val, signE_sz, ledgerE_val, ledgerE_sz, textResultE_val, textResultE_sz]; done) | (simp only [bse, wk, tys, storeH_ptr, Nat.reduceEqDiff, ↓reduceIte, reduceCtorEq, Nat.reduceAdd, Nat.reduceLeDiff, Int.reduceBEq, Int.reduceLT, Int.reduceLE, Int.reduceEq, ne_eq, not_false_eq_true, Nat.reduceMul, signE_val, signE_sz, ledgerE_val, ledgerE_sz, textResultE_val, textResultE_sz, *]; done))⟩ (by simp) | refine Bor.aggL ?_ | refine Bor.funcL ?_)); done)); (focus ((first | exact rfl | (simp [pureV, flatV, signE_val, signE_sz, ledgerE_val, ledgerE_sz, textResultE_val, textResultE_sz]; done))))) | (refine ACalls.ofP (spec_l1Id l ((k : Int) + 1)) ?_ ?_ ?_; (focus ((repeat' (first | exact BorL.nil | refine BorL.cons ?_ ?_ | exact Bor.same _ (by repeat' (first | exact Im.nilL | refine Im.consL ?_ ?_ | refine Im.appL ?_ ?_ | exact Im.flat _ rfl | exact islE_im _ _ | exact Enc.val_im _ _ | assumption | refine Im.aggL ?_ | refine Im.funcL ?_ | refine Im.funcA ?_ | refine Im.isl ?_ | refine Im.ip ?_)) | exact Bor.nil | exact Bor.sb (by first | (simp only [bse, wk, tys, storeH_ptr, Nat.reduceEqDiff, ↓reduceIte, reduceCtorEq, Nat.reduceAdd, Nat.reduceLeDiff, Int.reduceBEq, Int.reduceLT, Int.reduceLE, Int.reduceEq, ne_eq, not_false_eq_true, Nat.reduceMul, signE_val, signE_sz, ledgerE_val, ledgerE_sz, textResultE_val, textResultE_sz]; exact rfl) | (simp only [bse, wk, tys, storeH_ptr, Nat.reduceEqDiff, ↓reduceIte, reduceCtorEq, Nat.reduceAdd, Nat.reduceLeDiff, Int.reduceBEq, Int.reduceLT, Int.reduceLE, Int.reduceEq, ne_eq, not_false_eq_true, Nat.reduceMul, signE_val, signE_sz, ledgerE_val, ledgerE_sz, textResultE_val, textResultE_sz]; done) | (simp only [bse, wk, tys, storeH_ptr, Nat.reduceEqDiff, ↓reduceIte, reduceCtorEq, Nat.reduceAdd, Nat.reduceLeDiff, Int.reduceBEq, Int.reduceLT, Int.reduceLE, Int.reduceEq, ne_eq, not_false_eq_true, Nat.reduceMul, signE_val, signE_sz, ledgerE_val, ledgerE_sz, textResultE_val, textResultE_sz, *]; done)) (by first | exact fun _ => rfl | assumption | (intros; omega)) rfl | exact Bor.mks (by first | (simp only [bse, wk, tys, storeH_ptr, Nat.reduceEqDiff, ↓reduceIte, reduceCtorEq, Nat.reduceAdd, Nat.reduceLeDiff, Int.reduceBEq, Int.reduceLT, Int.reduceLE, Int.reduceEq, ne_eq, not_false_eq_true, Nat.reduceMul, signE_val, signE_sz, ledgerE_val, ledgerE_sz, textResultE_val, textResultE_sz]; exact rfl) | (simp only [bse, wk, tys, storeH_ptr, Nat.reduceEqDiff, ↓reduceIte, reduceCtorEq, Nat.reduceAdd, Nat.reduceLeDiff, Int.reduceBEq, Int.reduceLT, Int.reduceLE, Int.reduceEq, ne_eq, not_false_eq_true, Nat.reduceMul, signE_val, signE_sz, ledgerE_val, ledgerE_sz, textResultE_val, textResultE_sz]; done) | (simp only [bse, wk, tys, storeH_ptr, Nat.reduceEqDiff, ↓reduceIte, reduceCtorEq, Nat.reduceAdd, Nat.reduceLeDiff, Int.reduceBEq, Int.reduceLT, Int.reduceLE, Int.reduceEq, ne_eq, not_false_eq_true, Nat.reduceMul, signE_val, signE_sz, ledgerE_val, ledgerE_sz, textResultE_val, textResultE_sz, *]; done)) (by first | exact fun _ => rfl | assumption | (intros; omega)) (by intros; omega) | refine Bor.ptrL (by first | (simp only [bse, wk, tys, storeH_ptr, Nat.reduceEqDiff, ↓reduceIte, reduceCtorEq, Nat.reduceAdd, Nat.reduceLeDiff, Int.reduceBEq, Int.reduceLT, Int.reduceLE, Int.reduceEq, ne_eq, not_false_eq_true, Nat.reduceMul, signE_val, signE_sz, ledgerE_val, ledgerE_sz, textResultE_val, textResultE_sz]; exact rfl) | (simp only [bse, wk, tys, storeH_ptr, Nat.reduceEqDiff, ↓reduceIte, reduceCtorEq, Nat.reduceAdd, Nat.reduceLeDiff, Int.reduceBEq, Int.reduceLT, Int.reduceLE, Int.reduceEq, ne_eq, not_false_eq_true, Nat.reduceMul, signE_val, signE_sz, ledgerE_val, ledgerE_sz, textResultE_val, textResultE_sz]; done) | (simp only [bse, wk, tys, storeH_ptr, Nat.reduceEqDiff, ↓reduceIte, reduceCtorEq, Nat.reduceAdd, Nat.reduceLeDiff, Int.reduceBEq, Int.reduceLT, Int.reduceLE, Int.reduceEq, ne_eq, not_false_eq_true, Nat.reduceMul, signE_val, signE_sz, ledgerE_val, ledgerE_sz, textResultE_val, textResultE_sz, *]; done)) rfl rfl ⟨_, ?_, (by first | (simp only [bse, wk, tys, storeH_ptr, Nat.reduceEqDiff, ↓reduceIte, reduceCtorEq, Nat.reduceAdd, Nat.reduceLeDiff, Int.reduceBEq, Int.reduceLT, Int.reduceLE, Int.reduceEq, ne_eq, not_false_eq_true, Nat.reduceMul, signE_val, signE_sz, ledgerE_val, ledgerE_sz, textResultE_val, textResultE_sz]; exact rfl) | (simp only [bse, wk, tys, storeH_ptr, Nat.reduceEqDiff, ↓reduceIte, reduceCtorEq, Nat.reduceAdd, Nat.reduceLeDiff, Int.reduceBEq, Int.reduceLT, Int.reduceLE, Int.reduceEq, ne_eq, not_false_eq_true, Nat.reduceMul, signE_val, signE_sz, ledgerE_val, ledgerE_sz, textResultE_val, textResultE_sz]; done) | (simp only [bse, wk, tys, storeH_ptr, Nat.reduceEqDiff, ↓reduceIte, reduceCtorEq, Nat.reduceAdd, Nat.reduceLeDiff, Int.reduceBEq, Int.reduceLT, Int.reduceLE, Int.reduceEq, ne_eq, not_false_eq_true, Nat.reduceMul, signE_val, signE_sz, ledgerE_val, ledgerE_sz, textResultE_val, textResultE_sz, *]; done))⟩ (by simp) | refine Bor.aggL ?_ | refine Bor.funcL ?_)); done)); (focus ((first | exact rfl | (simp [pureV, flatV, signE_val, signE_sz, ledgerE_val, ledgerE_sz, textResultE_val, textResultE_sz]; done)))))) | (refine KV.run _ ?_) | (refine KT.run _ ?_) | (refine AWp.seqH fun KC => ?_) | (refine AWp.region ?_) | (refine AWp.ret ?_) | (refine AWp.skip ?_) | (refine aops_callH rfl fun kC => ?_) | (refine AWp.condB ?_) | (simp only [bse, wk, tys, storeH_ptr, Nat.reduceEqDiff, ↓reduceIte, reduceCtorEq, Nat.reduceAdd, Nat.reduceLeDiff, Int.reduceBEq, Int.reduceLT, Int.reduceLE, Int.reduceEq, ne_eq, not_false_eq_true, Nat.reduceMul, signE_val, signE_sz, ledgerE_val, ledgerE_sz, textResultE_val, textResultE_sz, *]))
end Go.BM
/- RuleMet: both sides. -/
set_option linter.unusedVariables false
set_option linter.unusedSimpArgs false
set_option maxRecDepth 100000
set_option maxHeartbeats 4000000
namespace Go.BM
open Go.Proofs Go.RowKit
attribute [local irreducible] ACalls AWp aops qops optK optP cK gateA condK mops qcallK PCalls loadV fldV idxV lenV slV storeH binS
def ruleFault (xs : List Int) (need after : Int) : Int := if !inB xs.length 1 3 then 2 else if !keysB xs || !inB need 1 xs.length || !inB after 0 999 then 3 else if !risB xs then 1 else 0
theorem impl_isHeight (a : Int) : PCalls Tryz.prog 140 [.int .i64 a] (.bool (inB a 0 999)) := by
  refine PCalls.flat rfl ?_; refine ACalls.enter (n := 5) (rs := [.tmp 2]) Tryz.func140 rfl rfl rfl (by kernel_rfl) (by kernel_rfl) (by kernel_rfl) (Nat.le_of_ble_eq_true rfl) ?_
  repeat' (first | (refine ACalls.start ?_; first | (refine ACalls.ofJi (impl_within _ _ _) rfl ?_)) | (refine KV.run _ ?_) | (refine KT.run _ ?_) | (refine AWp.seqH fun KC => ?_) | (refine AWp.region ?_) | (refine AWp.ret ?_) | (refine aops_callH rfl fun kC => ?_) | (simp only [bse, wk, tys, storeH_ptr, Nat.reduceEqDiff, ↓reduceIte, reduceCtorEq, Nat.reduceAdd, Nat.reduceLeDiff, Int.reduceBEq, Int.reduceLT, Int.reduceLE, Int.reduceEq, ne_eq, not_false_eq_true, Nat.reduceMul, ruleE_val, ruleE_sz, signE_val, signE_sz, ledgerE_val, ledgerE_sz, *]))
theorem spec_l2Height (a : Int) : PCalls Tryz.prog 119 [.int .i64 a] (.bool (inB a 0 999)) := by
  refine PCalls.flat rfl ?_; refine ACalls.enter (n := 5) (rs := [.tmp 2]) Tryz.func119 rfl rfl rfl (by kernel_rfl) (by kernel_rfl) (by kernel_rfl) (Nat.le_of_ble_eq_true rfl) ?_
  repeat' (first | (refine ACalls.start ?_; first | (refine ACalls.ofJi (spec_l1In _ _ _) rfl ?_)) | (refine KV.run _ ?_) | (refine KT.run _ ?_) | (refine AWp.seqH fun KC => ?_) | (refine AWp.region ?_) | (refine AWp.ret ?_) | (refine aops_callH rfl fun kC => ?_) | (simp only [bse, wk, tys, storeH_ptr, Nat.reduceEqDiff, ↓reduceIte, reduceCtorEq, Nat.reduceAdd, Nat.reduceLeDiff, Int.reduceBEq, Int.reduceLT, Int.reduceLE, Int.reduceEq, ne_eq, not_false_eq_true, Nat.reduceMul, ruleE_val, ruleE_sz, signE_val, signE_sz, ledgerE_val, ledgerE_sz, *]))
theorem impl_RuleFault (r : TRule) (hn : r.keys.length ≤ 1000000000000) : PCalls Tryz.prog 121 [ruleE.val r] (.int .i64 (ruleFault r.keys r.need r.after)) := by
  refine PCalls.flat rfl ?_; refine ACalls.enter (n := 34) (rs := [.tmp 2]) Tryz.func121 rfl rfl rfl (by kernel_rfl) (by kernel_rfl) (by kernel_rfl) (Nat.le_of_ble_eq_true rfl) ?_
  repeat' (first | (refine ACalls.start ?_; first | (refine ACalls.ofJi (impl_within _ _ _) rfl ?_) | (refine ACalls.ofJi (impl_areKeys r.keys (by omega)) rfl ?_) | (refine ACalls.ofJi (impl_isRising r.keys (by omega)) rfl ?_) | (refine ACalls.ofJi (impl_isHeight _) rfl ?_)) | (refine KV.run _ ?_) | (refine KT.run _ ?_) | (refine AWp.seqH fun KC => ?_) | (refine AWp.block ?_) | (refine AWp.region ?_) | (refine AWp.ret ?_) | (refine AWp.skip ?_) | (refine aops_callH rfl fun kC => ?_) | (refine AWp.condB ?_) | (simp only [bse, wk, tys, storeH_ptr, Nat.reduceEqDiff, ↓reduceIte, reduceCtorEq, Nat.reduceAdd, Nat.reduceLeDiff, Int.reduceBEq, Int.reduceLT, Int.reduceLE, Int.reduceEq, ne_eq, not_false_eq_true, Nat.reduceMul, ruleE_val, ruleE_sz, signE_val, signE_sz, ledgerE_val, ledgerE_sz, *]) | (refine condK_bool (fun hb => ?_) (fun hb => ?_) <;> ((try simp only [Bool.not_eq_true', Bool.not_eq_false'] at hb) <;> (try (have hbe := of_decide_eq_true hb)) <;> (try (have hbe := eq_of_beq hb)))) | (refine aops_partB ?_))
  all_goals (first | rfl | (simp only [ruleFault, bse, wk, tys, storeH_ptr, Nat.reduceEqDiff, ↓reduceIte, reduceCtorEq, Nat.reduceAdd, Nat.reduceLeDiff, Int.reduceBEq, Int.reduceLT, Int.reduceLE, Int.reduceEq, ne_eq, not_false_eq_true, Nat.reduceMul, ruleE_val, ruleE_sz, signE_val, signE_sz, ledgerE_val, ledgerE_sz, if_true, if_false, ite_true, ite_false, Bool.false_eq_true, *]; done) | (simp [ruleFault, *]; done) | (simp_all [ruleFault]; done) | (simp_all [ruleFault]; (repeat' split) <;> first | rfl | omega))
theorem spec_l2Fault (xs : List Int) (need after : Int) (hn : xs.length ≤ 1000000000000) : PCalls Tryz.prog 97 [ip [islE intE xs, .int .i64 need, .int .i64 after]] (.int .i64 (ruleFault xs need after)) := by
  cases hin : inB xs.length 1 3 with
  | false =>
    have hq : ruleFault xs need after = 2 := by simp [ruleFault, hin]
    rw [hq]
    refine PCalls.flat rfl ?_; refine ACalls.enter (n := 72) (rs := [.tmp 2]) Tryz.func97 rfl rfl rfl (by kernel_rfl) (by kernel_rfl) (by kernel_rfl) (Nat.le_of_ble_eq_true rfl) ?_
    repeat' (first | (refine ACalls.start ?_; first | (refine ACalls.ofJi (spec_l1In _ _ _) rfl ?_)) | (refine KV.run _ ?_) | (refine KT.run _ ?_) | (refine AWp.seqH fun KC => ?_) | (refine AWp.region ?_) | (refine AWp.ret ?_) | (refine aops_callH rfl fun kC => ?_) | (refine AWp.condB ?_) | (simp only [bse, wk, tys, storeH_ptr, Nat.reduceEqDiff, ↓reduceIte, reduceCtorEq, Nat.reduceAdd, Nat.reduceLeDiff, Int.reduceBEq, Int.reduceLT, Int.reduceLE, Int.reduceEq, ne_eq, not_false_eq_true, Nat.reduceMul, ruleE_val, ruleE_sz, signE_val, signE_sz, ledgerE_val, ledgerE_sz, *]))
  | true =>
    cases hneed : inB need 1 xs.length with
    | false =>
      have hq : ruleFault xs need after = 3 := by simp [ruleFault, hin, hneed]
      rw [hq]
      refine PCalls.flat rfl ?_; refine ACalls.enter (n := 72) (rs := [.tmp 2]) Tryz.func97 rfl rfl rfl (by kernel_rfl) (by kernel_rfl) (by kernel_rfl) (Nat.le_of_ble_eq_true rfl) ?_
      repeat' (first | (refine ACalls.start ?_; first | (refine ACalls.ofJi (spec_l1In _ _ _) rfl ?_)) | (refine KV.run _ ?_) | (refine KT.run _ ?_) | (refine AWp.seqH fun KC => ?_) | (refine AWp.block ?_) | (refine AWp.region ?_) | (refine AWp.skip ?_) | (refine aops_callH rfl fun kC => ?_) | (refine AWp.condB ?_) | (simp only [bse, wk, tys, storeH_ptr, Nat.reduceEqDiff, ↓reduceIte, reduceCtorEq, Nat.reduceAdd, Nat.reduceLeDiff, Int.reduceBEq, Int.reduceLT, Int.reduceLE, Int.reduceEq, ne_eq, not_false_eq_true, Nat.reduceMul, ruleE_val, ruleE_sz, signE_val, signE_sz, ledgerE_val, ledgerE_sz, *]))
      refine AWp.loopH [14, 15, 16, 17, 18, 19, 20, 23, 24, 25, 26, 27, 28, 29, 30, 31, 2, 21, 22, 4] (fun m e' H' => ∃ k : Nat, k ≤ xs.length ∧ m = xs.length - k ∧ e' 4 = .int .i64 k ∧ H' = []) xs.length ⟨0, by omega, by omega, rfl, rfl⟩ ?_
      rintro m e' H' hA ⟨k, hk, rfl, h4, rfl⟩ hJ
      have a0 := hA 0 rfl; have a3 := hA 3 rfl; try simp only [bse, wk, tys, storeH_ptr, Nat.reduceEqDiff, ↓reduceIte, reduceCtorEq, Nat.reduceAdd, Nat.reduceLeDiff, Int.reduceBEq, Int.reduceLT, Int.reduceLE, Int.reduceEq, ne_eq, not_false_eq_true, Nat.reduceMul] at a0 a3; clear hA
      by_cases hlt : k < xs.length
      · have hlt' : (k : Int) < (xs.length : Int) := by omega
        have hw := wr_succ (k := k) (by omega)
        cases hx : inB xs[k] 1 999 with
        | true =>
          repeat' (first | (refine ACalls.start ?_; first | (refine ACalls.ofJi (spec_l1Key _) rfl ?_)) | (refine KV.run _ ?_) | (refine KT.run _ ?_) | (refine AWp.seqH fun KC => ?_) | (refine AWp.block ?_) | (refine AWp.region ?_) | (refine AWp.skip ?_) | (refine aops_callH rfl fun kC => ?_) | (refine AWp.condB ?_) | (simp only [bse, wk, tys, storeH_ptr, Nat.reduceEqDiff, ↓reduceIte, reduceCtorEq, Nat.reduceAdd, Nat.reduceLeDiff, Int.reduceBEq, Int.reduceLT, Int.reduceLE, Int.reduceEq, ne_eq, not_false_eq_true, Nat.reduceMul, ruleE_val, ruleE_sz, signE_val, signE_sz, ledgerE_val, ledgerE_sz, *]))
          exact hJ.out _ _ ⟨xs.length - (k + 1), by omega, k + 1, by omega, rfl, rfl, rfl⟩ (by repeat (first | exact Agree.refl _ _ | assumption | refine Agree.put ?_ rfl _))
        | false =>
          repeat' (first | (refine ACalls.start ?_; first | (refine ACalls.ofJi (spec_l1Key _) rfl ?_)) | (refine KV.run _ ?_) | (refine KT.run _ ?_) | (refine AWp.seqH fun KC => ?_) | (refine AWp.block ?_) | (refine AWp.region ?_) | (refine AWp.ret ?_) | (refine AWp.skip ?_) | (refine aops_callH rfl fun kC => ?_) | (refine AWp.condB ?_) | (simp only [bse, wk, tys, storeH_ptr, Nat.reduceEqDiff, ↓reduceIte, reduceCtorEq, Nat.reduceAdd, Nat.reduceLeDiff, Int.reduceBEq, Int.reduceLT, Int.reduceLE, Int.reduceEq, ne_eq, not_false_eq_true, Nat.reduceMul, ruleE_val, ruleE_sz, signE_val, signE_sz, ledgerE_val, ledgerE_sz, *]))
      · have hlt' : ¬ (k : Int) < (xs.length : Int) := by omega
        repeat' (first | (refine ACalls.start ?_; first | (refine ACalls.ofJi (spec_l1In _ _ _) rfl ?_)) | (refine KV.run _ ?_) | (refine KT.run _ ?_) | (refine AWp.seqH fun KC => ?_) | (refine AWp.region ?_) | (refine AWp.ret ?_) | (refine AWp.exit ?_) | (refine aops_callH rfl fun kC => ?_) | (refine AWp.condB ?_) | (simp only [bse, wk, tys, storeH_ptr, Nat.reduceEqDiff, ↓reduceIte, reduceCtorEq, Nat.reduceAdd, Nat.reduceLeDiff, Int.reduceBEq, Int.reduceLT, Int.reduceLE, Int.reduceEq, ne_eq, not_false_eq_true, Nat.reduceMul, ruleE_val, ruleE_sz, signE_val, signE_sz, ledgerE_val, ledgerE_sz, *]))
    | true =>
      cases haft : inB after 0 999 with
      | false =>
        have hq : ruleFault xs need after = 3 := by simp [ruleFault, hin, hneed, haft]
        rw [hq]
        refine PCalls.flat rfl ?_; refine ACalls.enter (n := 72) (rs := [.tmp 2]) Tryz.func97 rfl rfl rfl (by kernel_rfl) (by kernel_rfl) (by kernel_rfl) (Nat.le_of_ble_eq_true rfl) ?_
        repeat' (first | (refine ACalls.start ?_; first | (refine ACalls.ofJi (spec_l1In _ _ _) rfl ?_)) | (refine KV.run _ ?_) | (refine KT.run _ ?_) | (refine AWp.seqH fun KC => ?_) | (refine AWp.block ?_) | (refine AWp.region ?_) | (refine AWp.skip ?_) | (refine aops_callH rfl fun kC => ?_) | (refine AWp.condB ?_) | (simp only [bse, wk, tys, storeH_ptr, Nat.reduceEqDiff, ↓reduceIte, reduceCtorEq, Nat.reduceAdd, Nat.reduceLeDiff, Int.reduceBEq, Int.reduceLT, Int.reduceLE, Int.reduceEq, ne_eq, not_false_eq_true, Nat.reduceMul, ruleE_val, ruleE_sz, signE_val, signE_sz, ledgerE_val, ledgerE_sz, *]))
        refine AWp.loopH [14, 15, 16, 17, 18, 19, 20, 23, 24, 25, 26, 27, 28, 29, 30, 31, 2, 21, 22, 4] (fun m e' H' => ∃ k : Nat, k ≤ xs.length ∧ m = xs.length - k ∧ e' 4 = .int .i64 k ∧ H' = []) xs.length ⟨0, by omega, by omega, rfl, rfl⟩ ?_
        rintro m e' H' hA ⟨k, hk, rfl, h4, rfl⟩ hJ
        have a0 := hA 0 rfl; have a3 := hA 3 rfl; try simp only [bse, wk, tys, storeH_ptr, Nat.reduceEqDiff, ↓reduceIte, reduceCtorEq, Nat.reduceAdd, Nat.reduceLeDiff, Int.reduceBEq, Int.reduceLT, Int.reduceLE, Int.reduceEq, ne_eq, not_false_eq_true, Nat.reduceMul] at a0 a3; clear hA
        by_cases hlt : k < xs.length
        · have hlt' : (k : Int) < (xs.length : Int) := by omega
          have hw := wr_succ (k := k) (by omega)
          cases hx : inB xs[k] 1 999 with
          | true =>
            repeat' (first | (refine ACalls.start ?_; first | (refine ACalls.ofJi (spec_l1Key _) rfl ?_)) | (refine KV.run _ ?_) | (refine KT.run _ ?_) | (refine AWp.seqH fun KC => ?_) | (refine AWp.block ?_) | (refine AWp.region ?_) | (refine AWp.skip ?_) | (refine aops_callH rfl fun kC => ?_) | (refine AWp.condB ?_) | (simp only [bse, wk, tys, storeH_ptr, Nat.reduceEqDiff, ↓reduceIte, reduceCtorEq, Nat.reduceAdd, Nat.reduceLeDiff, Int.reduceBEq, Int.reduceLT, Int.reduceLE, Int.reduceEq, ne_eq, not_false_eq_true, Nat.reduceMul, ruleE_val, ruleE_sz, signE_val, signE_sz, ledgerE_val, ledgerE_sz, *]))
            exact hJ.out _ _ ⟨xs.length - (k + 1), by omega, k + 1, by omega, rfl, rfl, rfl⟩ (by repeat (first | exact Agree.refl _ _ | assumption | refine Agree.put ?_ rfl _))
          | false =>
            repeat' (first | (refine ACalls.start ?_; first | (refine ACalls.ofJi (spec_l1Key _) rfl ?_)) | (refine KV.run _ ?_) | (refine KT.run _ ?_) | (refine AWp.seqH fun KC => ?_) | (refine AWp.block ?_) | (refine AWp.region ?_) | (refine AWp.ret ?_) | (refine AWp.skip ?_) | (refine aops_callH rfl fun kC => ?_) | (refine AWp.condB ?_) | (simp only [bse, wk, tys, storeH_ptr, Nat.reduceEqDiff, ↓reduceIte, reduceCtorEq, Nat.reduceAdd, Nat.reduceLeDiff, Int.reduceBEq, Int.reduceLT, Int.reduceLE, Int.reduceEq, ne_eq, not_false_eq_true, Nat.reduceMul, ruleE_val, ruleE_sz, signE_val, signE_sz, ledgerE_val, ledgerE_sz, *]))
        · have hlt' : ¬ (k : Int) < (xs.length : Int) := by omega
          repeat' (first | (refine ACalls.start ?_; first | (refine ACalls.ofJi (spec_l1In _ _ _) rfl ?_) | (refine ACalls.ofJi (spec_l2Height _) rfl ?_)) | (refine KV.run _ ?_) | (refine KT.run _ ?_) | (refine AWp.seqH fun KC => ?_) | (refine AWp.region ?_) | (refine AWp.ret ?_) | (refine AWp.exit ?_) | (refine aops_callH rfl fun kC => ?_) | (refine AWp.condB ?_) | (simp only [bse, wk, tys, storeH_ptr, Nat.reduceEqDiff, ↓reduceIte, reduceCtorEq, Nat.reduceAdd, Nat.reduceLeDiff, Int.reduceBEq, Int.reduceLT, Int.reduceLE, Int.reduceEq, ne_eq, not_false_eq_true, Nat.reduceMul, ruleE_val, ruleE_sz, signE_val, signE_sz, ledgerE_val, ledgerE_sz, *]))
      | true =>
        refine PCalls.flat rfl ?_; refine ACalls.enter (n := 72) (rs := [.tmp 2]) Tryz.func97 rfl rfl rfl (by kernel_rfl) (by kernel_rfl) (by kernel_rfl) (Nat.le_of_ble_eq_true rfl) ?_
        repeat' (first | (refine ACalls.start ?_; first | (refine ACalls.ofJi (spec_l1In _ _ _) rfl ?_)) | (refine KV.run _ ?_) | (refine KT.run _ ?_) | (refine AWp.seqH fun KC => ?_) | (refine AWp.block ?_) | (refine AWp.region ?_) | (refine AWp.skip ?_) | (refine aops_callH rfl fun kC => ?_) | (refine AWp.condB ?_) | (simp only [bse, wk, tys, storeH_ptr, Nat.reduceEqDiff, ↓reduceIte, reduceCtorEq, Nat.reduceAdd, Nat.reduceLeDiff, Int.reduceBEq, Int.reduceLT, Int.reduceLE, Int.reduceEq, ne_eq, not_false_eq_true, Nat.reduceMul, ruleE_val, ruleE_sz, signE_val, signE_sz, ledgerE_val, ledgerE_sz, *]))
        refine AWp.loopH [14, 15, 16, 17, 18, 19, 20, 23, 24, 25, 26, 27, 28, 29, 30, 31, 2, 21, 22, 4] (fun m e' H' => ∃ k : Nat, k ≤ xs.length ∧ m = xs.length - k ∧ e' 4 = .int .i64 k ∧ H' = [] ∧ Hid (∀ j (h1 : j < xs.length), j < k → inB xs[j] 1 999 = true)) xs.length ⟨0, by omega, by omega, rfl, rfl, fun j _ h => by omega⟩ ?_
        rintro m e' H' hA ⟨k, hk, rfl, h4, rfl, heq⟩ hJ
        have a0 := hA 0 rfl; have a3 := hA 3 rfl; try simp only [bse, wk, tys, storeH_ptr, Nat.reduceEqDiff, ↓reduceIte, reduceCtorEq, Nat.reduceAdd, Nat.reduceLeDiff, Int.reduceBEq, Int.reduceLT, Int.reduceLE, Int.reduceEq, ne_eq, not_false_eq_true, Nat.reduceMul] at a0 a3; clear hA
        by_cases hlt : k < xs.length
        · have hlt' : (k : Int) < (xs.length : Int) := by omega
          have hw := wr_succ (k := k) (by omega)
          cases hx : inB xs[k] 1 999 with
          | true =>
            repeat' (first | (refine ACalls.start ?_; first | (refine ACalls.ofJi (spec_l1Key _) rfl ?_)) | (refine KV.run _ ?_) | (refine KT.run _ ?_) | (refine AWp.seqH fun KC => ?_) | (refine AWp.block ?_) | (refine AWp.region ?_) | (refine AWp.skip ?_) | (refine aops_callH rfl fun kC => ?_) | (refine AWp.condB ?_) | (simp only [bse, wk, tys, storeH_ptr, Nat.reduceEqDiff, ↓reduceIte, reduceCtorEq, Nat.reduceAdd, Nat.reduceLeDiff, Int.reduceBEq, Int.reduceLT, Int.reduceLE, Int.reduceEq, ne_eq, not_false_eq_true, Nat.reduceMul, ruleE_val, ruleE_sz, signE_val, signE_sz, ledgerE_val, ledgerE_sz, *]))
            refine hJ.out _ _ ⟨xs.length - (k + 1), by omega, k + 1, by omega, rfl, rfl, rfl, fun j h1 hj => ?_⟩ (by repeat (first | exact Agree.refl _ _ | assumption | refine Agree.put ?_ rfl _))
            by_cases e : j = k
            · subst e; exact hx
            · exact heq.out j h1 (by omega)
          | false =>
            have hq : Hid (ruleFault xs need after = 3) := by unfold Hid; simp [ruleFault, hin, keysB_false hlt hx]
            repeat' (first | (refine ACalls.start ?_; first | (refine ACalls.ofJi (spec_l1Key _) rfl ?_)) | (refine KV.run _ ?_) | (refine KT.run _ ?_) | (refine AWp.seqH fun KC => ?_) | (refine AWp.block ?_) | (refine AWp.region ?_) | (refine AWp.ret ?_) | (refine AWp.skip ?_) | (refine aops_callH rfl fun kC => ?_) | (refine AWp.condB ?_) | (simp only [bse, wk, tys, storeH_ptr, Nat.reduceEqDiff, ↓reduceIte, reduceCtorEq, Nat.reduceAdd, Nat.reduceLeDiff, Int.reduceBEq, Int.reduceLT, Int.reduceLE, Int.reduceEq, ne_eq, not_false_eq_true, Nat.reduceMul, ruleE_val, ruleE_sz, signE_val, signE_sz, ledgerE_val, ledgerE_sz, *]))
            rw [hq.out]
        · have hlt' : ¬ (k : Int) < (xs.length : Int) := by omega
          have hks : keysB xs = true := keysB_true fun j hj => heq.out j hj (by omega)
          repeat' (first | (refine ACalls.start ?_; first | (refine ACalls.ofJi (spec_l1In _ _ _) rfl ?_) | (refine ACalls.ofJi (spec_l2Height _) rfl ?_)) | (refine KV.run _ ?_) | (refine KT.run _ ?_) | (refine AWp.seqH fun KC => ?_) | (refine AWp.block ?_) | (refine AWp.region ?_) | (refine AWp.skip ?_) | (refine AWp.exit ?_) | (refine aops_callH rfl fun kC => ?_) | (refine AWp.condB ?_) | (simp only [bse, wk, tys, storeH_ptr, Nat.reduceEqDiff, ↓reduceIte, reduceCtorEq, Nat.reduceAdd, Nat.reduceLeDiff, Int.reduceBEq, Int.reduceLT, Int.reduceLE, Int.reduceEq, ne_eq, not_false_eq_true, Nat.reduceMul, ruleE_val, ruleE_sz, signE_val, signE_sz, ledgerE_val, ledgerE_sz, *]))
          refine AWp.loopH [47, 48, 49, 50, 51, 52, 53, 56, 57, 58, 59, 60, 61, 62, 63, 64, 65, 66, 67, 68, 69, 70, 71, 2, 54, 55, 5] (fun m e'' H' => ∃ k : Nat, 1 ≤ k ∧ m = xs.length - k ∧ e'' 5 = .int .i64 k ∧ H' = [] ∧ Hid (∀ j (h1 : j + 1 < xs.length), j + 1 < k → xs[j] < xs[j + 1])) (xs.length - 1) ⟨1, by omega, by omega, rfl, rfl, fun j _ h => by omega⟩ ?_
          rintro m e'' H'' hA ⟨k, hk, rfl, h5, rfl, heq2⟩ hJ2
          have a0 := hA 0 rfl; try simp only [bse, wk, tys, storeH_ptr, Nat.reduceEqDiff, ↓reduceIte, reduceCtorEq, Nat.reduceAdd, Nat.reduceLeDiff, Int.reduceBEq, Int.reduceLT, Int.reduceLE, Int.reduceEq, ne_eq, not_false_eq_true, Nat.reduceMul] at a0; clear hA
          by_cases hlt2 : k < xs.length
          · have hlt2' : (k : Int) < (xs.length : Int) := by omega
            obtain ⟨k', rfl⟩ : ∃ k', k = k' + 1 := ⟨k - 1, by omega⟩
            have hk2 : k' < xs.length := by omega
            have hw := wr_succ (k := k' + 1) (by omega)
            have hw2 : IntKind.i64.wrap (((k' + 1 : Nat) : Int) - 1) = (k' : Int) := by rw [wr] <;> omega
            by_cases hx : xs[k' + 1] ≤ xs[k']
            · have hq : Hid (ruleFault xs need after = 1) := by unfold Hid; simp [ruleFault, hin, hks, hneed, haft, risB_false hlt2 hx]
              repeat' (first | (refine AWp.quiet (id := 14) (by kernel_rfl) (by kernel_rfl) ?_) | (refine KT.run _ ?_) | (refine AWp.seqH fun KC => ?_) | (refine AWp.block ?_) | (refine AWp.region ?_) | (refine AWp.ret ?_) | (refine AWp.skip ?_) | (refine AWp.condB ?_) | (simp only [bse, wk, tys, storeH_ptr, Nat.reduceEqDiff, ↓reduceIte, reduceCtorEq, Nat.reduceAdd, Nat.reduceLeDiff, Int.reduceBEq, Int.reduceLT, Int.reduceLE, Int.reduceEq, ne_eq, not_false_eq_true, Nat.reduceMul, ruleE_val, ruleE_sz, signE_val, signE_sz, ledgerE_val, ledgerE_sz, *]))
              rw [hq.out]
            · repeat' (first | (refine AWp.quiet (id := 14) (by kernel_rfl) (by kernel_rfl) ?_) | (refine KV.run _ ?_) | (refine KQ.run _ ?_) | (refine KT.run _ ?_) | (refine AWp.seqH fun KC => ?_) | (refine AWp.block ?_) | (refine AWp.region ?_) | (refine mops_step0 rfl rfl fun KC => ?_) | (refine mops_step1 rfl fun KC => ?_) | (refine mops_step2 rfl fun KC => ?_) | (refine AWp.ret ?_) | (refine AWp.skip ?_) | (refine AWp.exit ?_) | (refine aops_callH rfl fun kC => ?_) | (refine qops_callH rfl fun kC => ?_) | (refine AWp.condB ?_) | (simp only [bse, wk, tys, storeH_ptr, Nat.reduceEqDiff, ↓reduceIte, reduceCtorEq, Nat.reduceAdd, Nat.reduceLeDiff, Int.reduceBEq, Int.reduceLT, Int.reduceLE, Int.reduceEq, ne_eq, not_false_eq_true, Nat.reduceMul, ruleE_val, ruleE_sz, signE_val, signE_sz, ledgerE_val, ledgerE_sz, *]) | (refine condK_bool (fun hb => ?_) (fun hb => ?_) <;> ((try simp only [Bool.not_eq_true', Bool.not_eq_false'] at hb) <;> (try (have hbe := of_decide_eq_true hb)) <;> (try (have hbe := eq_of_beq hb)))) | (refine aops_partB ?_) | (refine qops_partB ?_))
              refine hJ2.out _ _ ⟨xs.length - (k' + 1 + 1), by omega, k' + 1 + 1, by omega, rfl, rfl, rfl, fun j h1 hj => ?_⟩ (by repeat (first | exact Agree.refl _ _ | assumption | refine Agree.put ?_ rfl _))
              by_cases e : j = k'
              · subst e; omega
              · exact heq2.out j h1 (by omega)
          · have hlt2' : ¬ (k : Int) < (xs.length : Int) := by omega
            have hr2 : risB xs = true := (risB_iff xs).2 fun j h1 => heq2.out j h1 (by omega)
            have hq : Hid (ruleFault xs need after = 0) := by unfold Hid; simp [ruleFault, hin, hks, hneed, haft, hr2]
            repeat' (first | (refine KT.run _ ?_) | (refine AWp.seqH fun KC => ?_) | (refine AWp.region ?_) | (refine AWp.ret ?_) | (refine AWp.exit ?_) | (refine AWp.condB ?_) | (simp only [bse, wk, tys, storeH_ptr, Nat.reduceEqDiff, ↓reduceIte, reduceCtorEq, Nat.reduceAdd, Nat.reduceLeDiff, Int.reduceBEq, Int.reduceLT, Int.reduceLE, Int.reduceEq, ne_eq, not_false_eq_true, Nat.reduceMul, ruleE_val, ruleE_sz, signE_val, signE_sz, ledgerE_val, ledgerE_sz, *]))
            rw [hq.out]
end Go.BM
/- Who owns what: slices and structs of the laws. -/
set_option linter.unusedVariables false
set_option linter.unusedSimpArgs false
set_option maxRecDepth 100000
set_option maxHeartbeats 4000000
namespace Go.BM
open Go.Proofs Go.RowKit
attribute [local irreducible] ACalls AWp aops qops optK optP cK gateA condK mops qcallK PCalls loadV fldV idxV lenV slV storeH binS
def nRule (x : TRule) : Nat := x.keys.length
theorem laws_eqRule (x : TRule) (hn : nRule x ≤ 1048576) : PCalls Tryz.prog 111 [ruleE.val x, ruleE.val x] (.bool true) := by
  unfold nRule at hn
  refine PCalls.flat rfl ?_; refine ACalls.enter (n := 21) (rs := [.tmp 4]) Tryz.func111 rfl rfl rfl (by kernel_rfl) (by kernel_rfl) (by kernel_rfl) (Nat.le_of_ble_eq_true rfl) ?_
  repeat' (first | (refine ACalls.start ?_; first | (refine ACalls.ofJi (laws_eqInt64S x.keys (by omega)) rfl ?_)) | (refine KV.run _ ?_) | (refine KT.run _ ?_) | (refine AWp.seqH fun KC => ?_) | (refine AWp.region ?_) | (refine AWp.ret ?_) | (refine AWp.skip ?_) | (refine aops_callH rfl fun kC => ?_) | (refine AWp.condB ?_) | (simp only [bse, wk, tys, storeH_ptr, Nat.reduceEqDiff, ↓reduceIte, reduceCtorEq, Nat.reduceAdd, Nat.reduceLeDiff, Int.reduceBEq, Int.reduceLT, Int.reduceLE, Int.reduceEq, ne_eq, not_false_eq_true, Nat.reduceMul, ruleE_val, ruleE_sz, *]))
end Go.BM
/- The text of a rule: the program. -/
set_option linter.unusedVariables false
set_option linter.unusedSimpArgs false
set_option maxRecDepth 100000
set_option maxHeartbeats 4000000
namespace Go.BM
open Go.Proofs Go.RowKit
attribute [local irreducible] ACalls AWp aops qops optK optP cK gateA condK mops qcallK PCalls loadV fldV idxV lenV slV storeH binS
/-- What a right rule's numbers are. -/
theorem rf_bounds {xs : List Int} {need after : Int} (h : ruleFault xs need after = 0) : (1 ≤ xs.length ∧ xs.length ≤ 3) ∧ (1 ≤ need ∧ need ≤ 3) ∧ (0 ≤ after ∧ after ≤ 999) ∧ ∀ x ∈ xs, 1 ≤ x ∧ x ≤ 999 := by
  unfold ruleFault at h
  split at h
  · simp at h
  rename_i h1
  split at h
  · simp at h
  rename_i h2
  have g1 : 1 ≤ xs.length ∧ xs.length ≤ 3 := by unfold inB at h1; simp at h1; omega
  have g2 : keysB xs = true ∧ inB need 1 xs.length = true ∧ inB after 0 999 = true := by
    cases hk : keysB xs <;> cases hn : inB need 1 xs.length <;> cases ha : inB after 0 999 <;> simp_all
  obtain ⟨hk, hn, ha⟩ := g2
  refine ⟨g1, by unfold inB at hn; simp at hn; omega, by unfold inB at ha; simp at ha; omega, fun x hx => ?_⟩
  unfold keysB at hk
  have := List.all_eq_true.1 hk x hx
  unfold inB at this
  simp at this
  omega
/-- The text of a rule, with c between. -/
def ruleT (c : UInt8) (r : TRule) : List UInt8 :=
  Lib.itoa r.need ++ [c] ++ [111, 102] ++ [c] ++ joinI 44 r.keys ++ (if r.after = 0 then [] else [c] ++ [97, 102, 116, 101, 114] ++ [c] ++ Lib.itoa r.after)
theorem impl_ruleText (r : TRule) (c : UInt8) (hr : ruleFault r.keys r.need r.after = 0) : PCalls Tryz.prog 110 [ruleE.val r, .string (bs [c])] (.string (bs (ruleT c r))) := by
  obtain ⟨h1, h2, h3, h4⟩ := rf_bounds hr
  have hj := impl_joined r.keys 44 (fun x hx => by have := h4 x hx; omega) (by omega)
  have hjl := joinI_len 44 r.keys (fun x hx => by have := h4 x hx; omega)
  have hd1 := lib_dec r.need (by omega) (by omega)
  have hl1 := itoa_len (x := r.need) (by omega) (by omega)
  have hd2 := lib_dec r.after (by omega) (by omega)
  have hl2 := itoa_len (x := r.after) (by omega) (by omega)
  obtain ⟨keys, need, after⟩ := r
  dsimp only at *
  unfold ruleT
  dsimp only
  have hjl' : (joinI 44 keys).length ≤ 12 := by omega
  have hd1' : PCalls Tryz.prog 93 [.int .i64 need] (.string (bs (Lib.itoa need))) := hd1
  have hd2' : PCalls Tryz.prog 93 [.int .i64 after] (.string (bs (Lib.itoa after))) := hd2
  clear hd1 hd2 hjl h4 hr
  generalize joinI 44 keys = J at hj hjl' ⊢
  generalize Lib.itoa need = N1 at hd1' hl1 ⊢
  generalize Lib.itoa after = N2 at hd2' hl2 ⊢
  obtain ⟨X1, hX1⟩ : ∃ X1, X1 = N1 ++ [c] := ⟨_, rfl⟩
  obtain ⟨X2, hX2⟩ : ∃ X2, X2 = X1 ++ [111, 102] := ⟨_, rfl⟩
  obtain ⟨X3, hX3⟩ : ∃ X3, X3 = X2 ++ [c] := ⟨_, rfl⟩
  obtain ⟨X4, hX4⟩ : ∃ X4, X4 = X3 ++ J := ⟨_, rfl⟩
  have l1 : X1.length ≤ 4 := by rw [hX1]; simp; omega
  have l2 : X2.length ≤ 6 := by rw [hX2]; simp; omega
  have l3 : X3.length ≤ 7 := by rw [hX3]; simp; omega
  have l4 : X4.length ≤ 19 := by rw [hX4]; simp; omega
  have a1 : ∀ xo yo, binS Tryz.prog .add 9 xo yo (.string (bs N1)) (.string (bs [c])) = some (.string (bs X1)) := fun xo yo => by
    rw [hX1]; exact bin_sadd _ _ _ N1 [c] (by simp; omega)
  have a2 : ∀ xo yo, binS Tryz.prog .add 9 xo yo (.string (bs X1)) (.string ⟨#[111, 102]⟩) = some (.string (bs X2)) := fun xo yo => by
    rw [hX2]; exact bin_sadd _ _ _ X1 [111, 102] (by simp; omega)
  have a3 : ∀ xo yo, binS Tryz.prog .add 9 xo yo (.string (bs X2)) (.string (bs [c])) = some (.string (bs X3)) := fun xo yo => by
    rw [hX3]; exact bin_sadd _ _ _ X2 [c] (by simp; omega)
  have a4 : ∀ xo yo, binS Tryz.prog .add 9 xo yo (.string (bs X3)) (.string (bs J)) = some (.string (bs X4)) := fun xo yo => by
    rw [hX4]; exact bin_sadd _ _ _ X3 J (by omega)
  have hT : N1 ++ [c] ++ [111, 102] ++ [c] ++ J = X4 := by rw [hX4, hX3, hX2, hX1]
  rw [hT]
  clear hT hX1 hX2 hX3 hX4
  by_cases h0 : after = 0
  · rw [if_pos h0, List.append_nil]
    subst h0
    refine PCalls.flat rfl ?_; refine ACalls.enter (n := 32) (rs := [.tmp 4]) Tryz.func110 rfl rfl rfl (by kernel_rfl) (by kernel_rfl) (by kernel_rfl) (Nat.le_of_ble_eq_true rfl) ?_
    repeat' (first | (refine AWp.quiet (id := 1) (by kernel_rfl) (by kernel_rfl) ?_) | (refine qcall_start ?_; first | (refine qcallFi (hd1') rfl ?_ ?_; (focus ((first | exact rfl | (simp [pureV, flatV, ruleE_val, ruleE_sz]; done))))) | (refine qcallFi (hj) rfl ?_ ?_; (focus ((first | exact rfl | (simp [pureV, flatV, ruleE_val, ruleE_sz]; done)))))) | (refine KQ.run _ ?_) | (refine KT.run _ ?_) | (refine AWp.seqH fun KC => ?_) | (refine AWp.region ?_) | (refine AWp.ret ?_) | (refine AWp.skip ?_) | (refine qops_callH rfl fun kC => ?_) | (refine AWp.condB ?_) | (simp only [bse, wk, tys, storeH_ptr, Nat.reduceEqDiff, ↓reduceIte, reduceCtorEq, Nat.reduceAdd, Nat.reduceLeDiff, Int.reduceBEq, Int.reduceLT, Int.reduceLE, Int.reduceEq, ne_eq, not_false_eq_true, Nat.reduceMul, ruleE_val, ruleE_sz, *]))
  · rw [if_neg h0]
    have h0' : (after == 0) = false := by simpa using h0
    obtain ⟨Y1, hY1⟩ : ∃ Y1, Y1 = [c] ++ [97, 102, 116, 101, 114] := ⟨_, rfl⟩
    obtain ⟨Y2, hY2⟩ : ∃ Y2, Y2 = Y1 ++ [c] := ⟨_, rfl⟩
    obtain ⟨Y3, hY3⟩ : ∃ Y3, Y3 = Y2 ++ N2 := ⟨_, rfl⟩
    have m1 : Y1.length ≤ 6 := by rw [hY1]; simp
    have m2 : Y2.length ≤ 7 := by rw [hY2]; simp; omega
    have m3 : Y3.length ≤ 10 := by rw [hY3]; simp; omega
    have b1 : ∀ xo yo, binS Tryz.prog .add 9 xo yo (.string (bs [c])) (.string ⟨#[97, 102, 116, 101, 114]⟩) = some (.string (bs Y1)) := fun xo yo => by
      rw [hY1]; exact bin_sadd _ _ _ [c] [97, 102, 116, 101, 114] (by simp)
    have b2 : ∀ xo yo, binS Tryz.prog .add 9 xo yo (.string (bs Y1)) (.string (bs [c])) = some (.string (bs Y2)) := fun xo yo => by
      rw [hY2]; exact bin_sadd _ _ _ Y1 [c] (by simp; omega)
    have b3 : ∀ xo yo, binS Tryz.prog .add 9 xo yo (.string (bs Y2)) (.string (bs N2)) = some (.string (bs Y3)) := fun xo yo => by
      rw [hY3]; exact bin_sadd _ _ _ Y2 N2 (by omega)
    have b4 : ∀ xo yo, binS Tryz.prog .add 9 xo yo (.string (bs X4)) (.string (bs Y3)) = some (.string (bs (X4 ++ Y3))) := fun xo yo => bin_sadd _ _ _ X4 Y3 (by omega)
    rw [← hY1, ← hY2, ← hY3]
    clear hY1 hY2 hY3
    refine PCalls.flat rfl ?_; refine ACalls.enter (n := 32) (rs := [.tmp 4]) Tryz.func110 rfl rfl rfl (by kernel_rfl) (by kernel_rfl) (by kernel_rfl) (Nat.le_of_ble_eq_true rfl) ?_
    repeat' (first | (refine AWp.quiet (id := 1) (by kernel_rfl) (by kernel_rfl) ?_) | (refine ACalls.start ?_; first | (refine ACalls.ofJi (hd2') rfl ?_)) | (refine qcall_start ?_; first | (refine qcallFi (hd1') rfl ?_ ?_; (focus ((first | exact rfl | (simp [pureV, flatV, ruleE_val, ruleE_sz]; done))))) | (refine qcallFi (hj) rfl ?_ ?_; (focus ((first | exact rfl | (simp [pureV, flatV, ruleE_val, ruleE_sz]; done)))))) | (refine KV.run _ ?_) | (refine KQ.run _ ?_) | (refine KT.run _ ?_) | (refine AWp.seqH fun KC => ?_) | (refine AWp.region ?_) | (refine AWp.ret ?_) | (refine aops_callH rfl fun kC => ?_) | (refine qops_callH rfl fun kC => ?_) | (refine AWp.condB ?_) | (simp only [bse, wk, tys, storeH_ptr, Nat.reduceEqDiff, ↓reduceIte, reduceCtorEq, Nat.reduceAdd, Nat.reduceLeDiff, Int.reduceBEq, Int.reduceLT, Int.reduceLE, Int.reduceEq, ne_eq, not_false_eq_true, Nat.reduceMul, ruleE_val, ruleE_sz, *]))
end Go.BM
/- A rule, read out of a text: the program. -/
set_option linter.unusedVariables false
set_option linter.unusedSimpArgs false
set_option maxRecDepth 100000
set_option maxHeartbeats 4000000
namespace Go.BM
open Go.Proofs Go.RowKit
attribute [local irreducible] ACalls AWp aops qops optK optP cK gateA condK mops qcallK PCalls loadV fldV idxV lenV slV storeH binS
/-- A block of numbers, told. -/
def dInts (zs : List Int) (bs : List Blk) (F : (Nat → Nat) → Value) : Prop := ∃ ver : Nat, bs = [⟨2, 1, intE.flat zs, ver, true⟩] ∧ F = fun ρ => .slice (some ⟨ρ 0, 0, none⟩) zs.length ver
theorem dInts_sh {zs : List Int} : ∀ bs F, dInts zs bs F → Shp bs F := by
  rintro _ _ ⟨ver, rfl, rfl⟩
  exact Shp.one (intE_flat _) fun N ρ k => .slice 0 0 none _ _ (by decide)
theorem impl_numbersF (t : List UInt8) (c : UInt8) (ht : t.length ≤ 1000000) : NFun Tryz.prog 75 [.string (bs t), .string (bs [c])] (dInts ((cutL c t).map numL)) := by
  have hsp := lib_SplitC t c (by omega)
  have hln := cutL_len c t
  have hwl := cutL_mem c t
  have hws : ∀ (k : Nat) (hk : k < (cutW c t).length), ∃ w, w ∈ cutL c t ∧ (cutW c t)[k] = bs w := fun k hk => by
    obtain ⟨w, hw, e⟩ := List.mem_map.1 (List.getElem_mem hk : (cutW c t)[k] ∈ cutW c t)
    exact ⟨w, hw, e.symm⟩
  have hcl : (cutW c t).length = (cutL c t).length := List.length_map ..
  have hmp : (cutL c t).map numL = (cutW c t).map numF := by unfold cutW; rw [List.map_map]; rfl
  rw [hmp]
  have hnum : ∀ (k : Nat) (hk : k < (cutW c t).length), PCalls Tryz.prog 74 [.string (cutW c t)[k]] (.int .i64 (numF (cutW c t)[k])) := fun k hk => by
    obtain ⟨w, hw, e⟩ := hws k hk
    rw [e]
    exact lib_number _ (by rw [bs_size]; have := hwl w hw; omega)
  have hwn : (cutW c t).length ≤ 1000001 := by omega
  generalize cutW c t = ws at hsp hnum hwn ⊢
  clear hws hcl hmp hwl hln
  unfold NFun
  refine ACalls.enter (n := 24) (rs := [.tmp 4]) Tryz.func75 rfl rfl rfl (by kernel_rfl) (by kernel_rfl) (by kernel_rfl) (Nat.le_of_ble_eq_true rfl) ?_
  repeat' (first | (refine ACalls.start ?_; first | (refine ACalls.ofJi (hsp) rfl ?_)) | (refine KV.run _ ?_) | (refine KT.run _ ?_) | (refine AWp.seqH fun KC => ?_) | (refine AWp.block ?_) | (refine AWp.region ?_) | (refine aops_callH rfl fun kC => ?_) | (simp only [bse, wk, tys, storeH_ptr, Nat.reduceEqDiff, ↓reduceIte, reduceCtorEq, Nat.reduceAdd, Nat.reduceLeDiff, Int.reduceBEq, Int.reduceLT, Int.reduceLE, Int.reduceEq, ne_eq, not_false_eq_true, Nat.reduceMul, ruleE_val, ruleE_sz, *]))
  refine AWp.loopH [14, 15, 16, 7, 17, 18, 19, 20, 21, 5, 22, 13] (fun m e' H' => ∃ (k ver : Nat) (G : AH), k ≤ ws.length ∧ m = ws.length - k ∧ e' 13 = .int .i64 k ∧ e' 5 = .slice (some ⟨0, 0, none⟩) k ver ∧ H' = ⟨2, 1, intE.flat ((ws.take k).map numF), ver, true⟩ :: G) ws.length ⟨0, 0, _, by omega, by omega, rfl, rfl, rfl⟩ ?_
  rintro m e' H' hA ⟨k, ver, G, hk, rfl, e13, e5, rfl⟩ hJ
  have a4 := hA 4 rfl; have a11 := hA 11 rfl; have a12 := hA 12 rfl; try simp only [bse, wk, tys, storeH_ptr, Nat.reduceEqDiff, ↓reduceIte, reduceCtorEq, Nat.reduceAdd, Nat.reduceLeDiff, Int.reduceBEq, Int.reduceLT, Int.reduceLE, Int.reduceEq, ne_eq, not_false_eq_true, Nat.reduceMul] at a4 a11 a12; clear hA
  by_cases hlt : k < ws.length
  · have hlt' : (k : Int) < (ws.length : Int) := by omega
    have hw := wr_succ (k := k) (by omega)
    have hn := hnum k hlt
    have hkl : ((ws.take k).map numF).length = k := by rw [List.length_map, List.length_take]; omega
    have hap := appendH_one (P := Tryz.prog) (B := 0) (E := intE) (H0 := ⟨2, 1, intE.flat ((ws.take k).map numF), ver, true⟩ :: G) (ys := (ws.take k).map numF) (numF ws[k]) elZ27 elZ27 zOk27 (r := 0) rfl (Nat.zero_le _) (by omega) (by omega)
    rw [hkl, ← map_step numF ws k hlt] at hap
    simp only [List.cons_append, List.length_cons, List.set_cons_succ, List.set_cons_zero, intE_sz, intE_val, cells_int] at hap
    clear hkl hnum
    repeat' (first | (refine ACalls.start ?_; first | (refine ACalls.ofJi (hn) rfl ?_)) | (refine KV.run _ ?_) | (refine KT.run _ ?_) | (refine AWp.seqH fun KC => ?_) | (refine AWp.block ?_) | (refine AWp.region ?_) | (refine AWp.skip ?_) | (refine aops_callH rfl fun kC => ?_) | (refine AWp.condB ?_) | (simp only [bse, wk, tys, storeH_ptr, Nat.reduceEqDiff, ↓reduceIte, reduceCtorEq, Nat.reduceAdd, Nat.reduceLeDiff, Int.reduceBEq, Int.reduceLT, Int.reduceLE, Int.reduceEq, ne_eq, not_false_eq_true, Nat.reduceMul, ruleE_val, ruleE_sz, *]))
    exact hJ.out _ _ ⟨ws.length - (k + 1), by omega, k + 1, ver + 1, _, by omega, rfl, rfl, by simp [put], rfl⟩ (by repeat (first | exact Agree.refl _ _ | assumption | refine Agree.put ?_ rfl _))
  · have hlt' : ¬ (k : Int) < (ws.length : Int) := by omega
    have hke : k = ws.length := by omega
    subst hke
    rw [List.take_length]
    clear hnum
    repeat' (first | (refine KT.run _ ?_) | (refine AWp.seqH fun KC => ?_) | (refine AWp.region ?_) | (refine AWp.ret ?_) | (refine AWp.exit ?_) | (refine AWp.condB ?_) | (simp only [bse, wk, tys, storeH_ptr, Nat.reduceEqDiff, ↓reduceIte, reduceCtorEq, Nat.reduceAdd, Nat.reduceLeDiff, Int.reduceBEq, Int.reduceLT, Int.reduceLE, Int.reduceEq, ne_eq, not_false_eq_true, Nat.reduceMul, ruleE_val, ruleE_sz, *]))
    exact NFOut.one 0 rfl ⟨ver, rfl, rfl⟩ (by simp)
theorem impl_numbers_own (H : AH) (t : List UInt8) (c : UInt8) (ht : t.length ≤ 1000000) :
    ACalls Tryz.prog H.length 75 [.string (bs t), .string (bs [c])] H fun d H' => ∃ ver : Nat, d = .slice (some ⟨H.length, 0, none⟩) ((cutL c t).map numL).length ver ∧ H' = H ++ [⟨2, 1, intE.flat ((cutL c t).map numL), ver, true⟩] :=
  ACalls.get ((impl_numbersF t c ht).use dInts_sh (.cons (.same _ (.flat _ rfl)) (.cons (.same _ (.flat _ rfl)) .nil))) (Nat.le_refl _) (Nat.le_refl _) (by
    rintro _ _ ⟨_, _, ⟨ver, rfl, rfl⟩, rfl, rfl⟩
    exact ⟨ver, rfl, rfl⟩)
end Go.BM
/- A rule, read out of a text: the program. -/
set_option linter.unusedVariables false
set_option linter.unusedSimpArgs false
set_option maxRecDepth 100000
set_option maxHeartbeats 4000000
namespace Go.BM
open Go.Proofs Go.RowKit
attribute [local irreducible] ACalls AWp aops qops optK optP cK gateA condK mops qcallK PCalls loadV fldV idxV lenV slV storeH binS
def rule0 : TRule := ⟨[], 0, 0⟩
/-- A rule that was read is right, and its text is the text. -/
def chkR (c : UInt8) (t : List UInt8) (r : TRule) : TRule × Bool := if ruleFault r.keys r.need r.after = 0 ∧ ruleT c r = t then (r, true) else (rule0, false)
def readR (c : UInt8) (t : List UInt8) : TRule × Bool :=
  if 300 < t.length then (rule0, false) else
  match cutL c t with
  | [w0, _, w2] => chkR c t ⟨(cutL 44 w2).map numL, numL w0, 0⟩
  | [w0, _, w2, _, w4] => chkR c t ⟨(cutL 44 w2).map numL, numL w0, numL w4⟩
  | _ => (rule0, false)
def dRule (R : TRule × Bool) (bs : List Blk) (F : (Nat → Nat) → Value) : Prop :=
  (R = (rule0, false) ∧ bs = [] ∧ F = fun _ => .tuple #[.agg #[.slice none 0 0, .int .i64 0, .int .i64 0], .bool false]) ∨
  (R.2 = true ∧ ∃ ver : Nat, bs = [⟨2, 1, intE.flat R.1.keys, ver, true⟩] ∧ F = fun ρ => .tuple #[.agg #[.slice (some ⟨ρ 0, 0, none⟩) R.1.keys.length ver, .int .i64 R.1.need, .int .i64 R.1.after], .bool true])
theorem LifL.tupL {N : AH} {ρ : Nat → Nat} {q : Nat → Prop} {k : Nat} {xs m : List Value} (h : LifL N ρ q k xs m) : Lif N ρ q k (.tuple xs.toArray) (.tuple m.toArray) := by
  obtain ⟨h1, h2⟩ := h.at
  exact .tuple _ _ (by simpa using h1) fun i g1 g2 => by simpa using h2 i (by simpa using g1) (by simpa using g2)
theorem dRule_sh {R : TRule × Bool} : ∀ bs F, dRule R bs F → Shp bs F := by
  rintro _ _ (⟨_, rfl, rfl⟩ | ⟨_, ver, rfl, rfl⟩)
  · exact Shp.none fun N ρ k => LifL.tupL (.cons (LifL.aggL (.cons .nil (.cons (.flat _ rfl) (.cons (.flat _ rfl) .nil)))) (.cons (.flat _ rfl) .nil))
  · exact Shp.one (intE_flat _) fun N ρ k => LifL.tupL (.cons (LifL.aggL (.cons (.slice 0 0 none _ _ (by decide)) (.cons (.flat _ rfl) (.cons (.flat _ rfl) .nil)))) (.cons (.flat _ rfl) .nil))
theorem readRule3 (t : List UInt8) (c : UInt8) (w0 w1 w2 : List UInt8) (hw : cutL c t = [w0, w1, w2]) (ht : t.length ≤ 300) : NFun Tryz.prog 104 [.string (bs t), .string (bs [c])] (dRule (chkR c t ⟨(cutL 44 w2).map numL, numL w0, 0⟩)) := by
  have hsp := lib_SplitC t c (by omega)
  have hW : cutW c t = [bs w0, bs w1, bs w2] := by unfold cutW; rw [hw]; rfl
  rw [hW] at hsp
  have hlt := cutL_mem c t
  rw [hw] at hlt
  have n0 : PCalls Tryz.prog 74 [.string (bs w0)] (.int .i64 (numL w0)) := lib_number (bs w0) (by rw [bs_size]; have := hlt w0 (by simp); omega)
  have nz := fun H : AH => impl_numbers_own H w2 44 (by have := hlt w2 (by simp); omega)
  have hzn : ((cutL 44 w2).map numL).length ≤ 1000000 := by rw [List.length_map]; have := cutL_len 44 w2; have := hlt w2 (by simp); omega
  have ix0 : ∀ H : AH, idxV Tryz.prog H 22 (islE strE [bs w0, bs w1, bs w2]) (.int .i64 0) = some (ip [.string (bs w0), .string (bs w1), .string (bs w2)]) := fun H => idxV_isl (P := Tryz.prog) (H := H) (n := 3) (k := 0) (kd := .i64) (cs := strE.flat [bs w0, bs w1, bs w2]) elZ22 (by omega)
  have ix2 : ∀ H : AH, idxV Tryz.prog H 22 (islE strE [bs w0, bs w1, bs w2]) (.int .i64 2) = some (ip [.string (bs w2)]) := fun H => idxV_isl (P := Tryz.prog) (H := H) (n := 3) (k := 2) (kd := .i64) (cs := strE.flat [bs w0, bs w1, bs w2]) elZ22 (by omega)
  have ld : ∀ (H : AH) (w : ByteArray) (l : List Value), loadV Tryz.prog H 9 (ip (.string w :: l)) = some (.string w) := fun H w l => load_ip1 (P := Tryz.prog) (H := H) (T := 9) (p := 0) (cs := .string w :: l) lay9 rfl
  have h300 : ¬ (300 : Int) < (t.length : Int) := by omega
  have q3 : (((3 : Nat) : Int) == 3) = true := rfl
  have q5 : (((3 : Nat) : Int) == 5) = false := rfl
  clear hW hlt hw ht
  generalize (cutL 44 w2).map numL = zs at nz hzn ⊢
  generalize numL w0 = x0 at n0 ⊢
  have hbf := impl_RuleFault ⟨zs, x0, 0⟩ (by dsimp only; omega)
  have hbt := impl_ruleText ⟨zs, x0, 0⟩ c
  obtain ⟨R, hR⟩ : ∃ R : TRule × Bool, R = chkR c t ⟨zs, x0, 0⟩ := ⟨_, rfl⟩
  rw [← hR]
  unfold chkR at hR
  dsimp only at hR hbf hbt
  have hRH : Hid _ := hR
  clear hR
  unfold NFun
  refine ACalls.enter (n := 54) (rs := [.cell 4 115, .tmp 5]) Tryz.func104 rfl rfl rfl (by kernel_rfl) (by kernel_rfl) (by kernel_rfl) (Nat.le_of_ble_eq_true rfl) ?_
  repeat' (first | (refine ACalls.start ?_; first | (refine ACalls.ofJi (hsp) rfl ?_)) | (refine KV.run _ ?_) | (refine KT.run _ ?_) | (refine AWp.seqH fun KC => ?_) | (refine AWp.region ?_) | (refine AWp.skip ?_) | (refine aops_callH rfl fun kC => ?_) | (refine AWp.condB ?_) | (simp only [bse, wk, tys, storeH_ptr, Nat.reduceEqDiff, ↓reduceIte, reduceCtorEq, Nat.reduceAdd, Nat.reduceLeDiff, Int.reduceBEq, Int.reduceLT, Int.reduceLE, Int.reduceEq, ne_eq, not_false_eq_true, Nat.reduceMul, ruleE_val, ruleE_sz, *]))
  refine AWp.mixedV (id := 4) (.cons 0 0 (.cons 1 0 (.cons 2 0 (.cons 4 0 (.cons 5 0 (.cons 6 0 (.alt 3 1 (.alt 7 1 (.cons 8 0 (.cons 9 1 (.cons 10 2 .nil))) (.cons 9 1 (.cons 7 1 (.cons 8 0 (.cons 10 2 .nil))))) (.cons 9 1 (.cons 3 1 (.cons 7 1 (.cons 8 0 (.cons 10 2 .nil)))))))))))) (by kernel_rfl) (by kernel_rfl) ?_
  refine mopsT_abs fun e0 he0 => ?_
  have r6 := congrFun he0 6
  try simp only [bse, wk, tys, storeH_ptr, Nat.reduceEqDiff, ↓reduceIte, reduceCtorEq, Nat.reduceAdd, Nat.reduceLeDiff, Int.reduceBEq, Int.reduceLT, Int.reduceLE, Int.reduceEq, ne_eq, not_false_eq_true, Nat.reduceMul, ruleE_val, ruleE_sz] at r6
  have he1 : Hid _ := he0
  clear he0
  refine mopsT_mono (K := fun e' H' => Agree [7, 25, 26, 27, 28, 29, 30, 31, 32, 33] e0 e' ∧ (∃ (p q v : Nat) (G : AH), e' 7 = .pointer (some ⟨q + 1, 0, some 0⟩) ∧ H' = ⟨115, 0, [.slice none 0 0, .int .i64 0, .int .i64 0], 0, true⟩ :: G ∧ G[q]? = some ⟨115, 0, [.slice (some ⟨p + 1, 0, none⟩) zs.length v, .int .i64 x0, .int .i64 0], 0, true⟩ ∧ G[p]? = some ⟨2, 1, intE.flat zs, v, true⟩ ∧ p ≠ q)) ?cont _ _ _ ?leaf
  case leaf =>
    clear hbf hbt
    repeat' (first | (refine mopsT_step0 rfl rfl fun KC => ?_) | (refine mopsT_step1 rfl fun KC => ?_) | (refine mopsT_step2 rfl fun KC => ?_) | (refine mopsT_alt1 rfl (fun KC => ?_) ?_) | (refine ACalls.start ?_; first | (refine ACalls.ofJi (n0) rfl ?_) | (refine ACalls.get (nz _) (by first | exact Nat.le_refl _ | exact Nat.zero_le _ | (simp only [List.length_append, List.length_cons, List.length_nil]; omega) | (simp only [List.length_set]; omega) | omega) (by first | exact Nat.le_refl _ | exact Nat.zero_le _ | (simp only [List.length_append, List.length_cons, List.length_nil]; omega) | (simp only [List.length_set]; omega) | omega) ?_; rintro _ _ ⟨v, rfl, rfl⟩)) | (refine KV.run _ ?_) | (refine KT.run _ ?_) | (refine aops_callH rfl fun kC => ?_) | (simp only [bse, wk, tys, storeH_ptr, Nat.reduceEqDiff, ↓reduceIte, reduceCtorEq, Nat.reduceAdd, Nat.reduceLeDiff, Int.reduceBEq, Int.reduceLT, Int.reduceLE, Int.reduceEq, ne_eq, not_false_eq_true, Nat.reduceMul, ruleE_val, ruleE_sz, *]))
    all_goals exact ⟨(by repeat (first | exact Agree.refl _ _ | assumption | refine Agree.put ?_ rfl _)), _, _, _, _, rfl, rfl, rfl, rfl, by decide⟩
  rintro e' H' ⟨hA, p, q, v, G, e7, rfl, gq, gp, npq⟩
  have he2 := he1.out
  clear he1
  have a0 := hA 0 rfl
  have a1 := hA 1 rfl
  have a4 := hA 4 rfl
  have a5 := hA 5 rfl
  have a6 := hA 6 rfl
  rw [he2] at a0 a1 a4 a5 a6
  try simp only [bse, wk, tys, storeH_ptr, Nat.reduceEqDiff, ↓reduceIte, reduceCtorEq, Nat.reduceAdd, Nat.reduceLeDiff, Int.reduceBEq, Int.reduceLT, Int.reduceLE, Int.reduceEq, ne_eq, not_false_eq_true, Nat.reduceMul, ruleE_val, ruleE_sz] at a0 a1 a4 a5 a6
  clear hA he2
  clear nz n0 ix0 ix2
  have hba : Bor (⟨115, 0, [.slice none 0 0, .int .i64 0, .int .i64 0], 0, true⟩ :: G) (.agg #[.slice (some ⟨p + 1, 0, none⟩) zs.length v, .int .i64 x0, .int .i64 0]) (ruleE.val ⟨zs, x0, 0⟩) := Bor.aggL (.cons (Bor.sbE (E := intE) (r := p + 1) (el := 2) (ver := v) (o := true) (ys := zs) (by rw [List.getElem?_cons_succ]; exact gp) (fun _ => rfl) rfl) (.cons (.same _ (.flat _ rfl)) (.cons (.same _ (.flat _ rfl)) .nil)))
  by_cases hf : ruleFault zs x0 0 = 0
  · rw [hf] at hbf
    have hbt := hbt hf
    have hct : (bs (ruleT c ⟨zs, x0, 0⟩) == bs t) = (ruleT c ⟨zs, x0, 0⟩ == t) := bs_beq _ _
    by_cases hT : ruleT c ⟨zs, x0, 0⟩ = t
    · have hR2 : R = (⟨zs, x0, 0⟩, true) := by rw [hRH.out, if_pos ⟨hf, hT⟩]
      have hct' : (bs (ruleT c ⟨zs, x0, 0⟩) == bs t) = true := by rw [hct]; simpa using hT
      subst hR2
      clear hct hT hf hRH
      generalize ruleT c ⟨zs, x0, 0⟩ = T at hbt hct'
      repeat' (first | (refine KT.run _ ?_) | (refine AWp.seqH fun KC => ?_) | (refine AWp.region ?_) | (refine AWp.skip ?_) | (refine aops_callH rfl fun kC => ?_) | (refine AWp.condB ?_) | (simp only [bse, wk, tys, storeH_ptr, Nat.reduceEqDiff, ↓reduceIte, reduceCtorEq, Nat.reduceAdd, Nat.reduceLeDiff, Int.reduceBEq, Int.reduceLT, Int.reduceLE, Int.reduceEq, ne_eq, not_false_eq_true, Nat.reduceMul, ruleE_val, ruleE_sz, *]))
      refine ACalls.ofP hbf (.cons hba .nil) rfl ?_
      repeat' (first | (refine KV.run _ ?_) | (refine aops_callH rfl fun kC => ?_) | (simp only [bse, wk, tys, storeH_ptr, Nat.reduceEqDiff, ↓reduceIte, reduceCtorEq, Nat.reduceAdd, Nat.reduceLeDiff, Int.reduceBEq, Int.reduceLT, Int.reduceLE, Int.reduceEq, ne_eq, not_false_eq_true, Nat.reduceMul, ruleE_val, ruleE_sz, *]))
      refine ACalls.ofP hbt (.cons hba (.cons (.same _ (.flat _ rfl)) .nil)) rfl ?_
      repeat' (first | (refine KV.run _ ?_) | (refine KT.run _ ?_) | (refine AWp.seqH fun KC => ?_) | (refine AWp.region ?_) | (refine AWp.ret ?_) | (refine AWp.skip ?_) | (refine AWp.condB ?_) | (simp only [bse, wk, tys, storeH_ptr, Nat.reduceEqDiff, ↓reduceIte, reduceCtorEq, Nat.reduceAdd, Nat.reduceLeDiff, Int.reduceBEq, Int.reduceLT, Int.reduceLE, Int.reduceEq, ne_eq, not_false_eq_true, Nat.reduceMul, ruleE_val, ruleE_sz, *]))
      exact NFOut.one (p + 1) (by rw [List.getElem?_cons_succ]; exact gp) (.inr ⟨rfl, v, rfl, rfl⟩) rfl
    · have hR2 : R = (rule0, false) := by rw [hRH.out, if_neg fun h => hT h.2]
      have hct' : (bs (ruleT c ⟨zs, x0, 0⟩) == bs t) = false := by rw [hct]; simpa using hT
      subst hR2
      clear hct hT hf hRH
      generalize ruleT c ⟨zs, x0, 0⟩ = T at hbt hct'
      repeat' (first | (refine KT.run _ ?_) | (refine AWp.seqH fun KC => ?_) | (refine AWp.region ?_) | (refine AWp.skip ?_) | (refine aops_callH rfl fun kC => ?_) | (refine AWp.condB ?_) | (simp only [bse, wk, tys, storeH_ptr, Nat.reduceEqDiff, ↓reduceIte, reduceCtorEq, Nat.reduceAdd, Nat.reduceLeDiff, Int.reduceBEq, Int.reduceLT, Int.reduceLE, Int.reduceEq, ne_eq, not_false_eq_true, Nat.reduceMul, ruleE_val, ruleE_sz, *]))
      refine ACalls.ofP hbf (.cons hba .nil) rfl ?_
      repeat' (first | (refine KV.run _ ?_) | (refine aops_callH rfl fun kC => ?_) | (simp only [bse, wk, tys, storeH_ptr, Nat.reduceEqDiff, ↓reduceIte, reduceCtorEq, Nat.reduceAdd, Nat.reduceLeDiff, Int.reduceBEq, Int.reduceLT, Int.reduceLE, Int.reduceEq, ne_eq, not_false_eq_true, Nat.reduceMul, ruleE_val, ruleE_sz, *]))
      refine ACalls.ofP hbt (.cons hba (.cons (.same _ (.flat _ rfl)) .nil)) rfl ?_
      repeat' (first | (refine KV.run _ ?_) | (refine KT.run _ ?_) | (refine AWp.seqH fun KC => ?_) | (refine AWp.region ?_) | (refine AWp.ret ?_) | (refine AWp.condB ?_) | (simp only [bse, wk, tys, storeH_ptr, Nat.reduceEqDiff, ↓reduceIte, reduceCtorEq, Nat.reduceAdd, Nat.reduceLeDiff, Int.reduceBEq, Int.reduceLT, Int.reduceLE, Int.reduceEq, ne_eq, not_false_eq_true, Nat.reduceMul, ruleE_val, ruleE_sz, *]))
      exact NFOut.none (.inl ⟨rfl, rfl, rfl⟩) rfl
  · have hR2 : R = (rule0, false) := by rw [hRH.out, if_neg fun h => hf h.1]
    have hf' : (ruleFault zs x0 0 == 0) = false := by simpa using hf
    subst hR2
    clear hbt hf hRH
    generalize ruleFault zs x0 0 = F at hbf hf'
    repeat' (first | (refine KT.run _ ?_) | (refine AWp.seqH fun KC => ?_) | (refine AWp.region ?_) | (refine AWp.skip ?_) | (refine aops_callH rfl fun kC => ?_) | (refine AWp.condB ?_) | (simp only [bse, wk, tys, storeH_ptr, Nat.reduceEqDiff, ↓reduceIte, reduceCtorEq, Nat.reduceAdd, Nat.reduceLeDiff, Int.reduceBEq, Int.reduceLT, Int.reduceLE, Int.reduceEq, ne_eq, not_false_eq_true, Nat.reduceMul, ruleE_val, ruleE_sz, *]))
    refine ACalls.ofP hbf (.cons hba .nil) rfl ?_
    repeat' (first | (refine KV.run _ ?_) | (refine KT.run _ ?_) | (refine AWp.seqH fun KC => ?_) | (refine AWp.region ?_) | (refine AWp.ret ?_) | (refine AWp.condB ?_) | (simp only [bse, wk, tys, storeH_ptr, Nat.reduceEqDiff, ↓reduceIte, reduceCtorEq, Nat.reduceAdd, Nat.reduceLeDiff, Int.reduceBEq, Int.reduceLT, Int.reduceLE, Int.reduceEq, ne_eq, not_false_eq_true, Nat.reduceMul, ruleE_val, ruleE_sz, *]))
    exact NFOut.none (.inl ⟨rfl, rfl, rfl⟩) rfl
theorem readRule5 (t : List UInt8) (c : UInt8) (w0 w1 w2 w3 w4 : List UInt8) (hw : cutL c t = [w0, w1, w2, w3, w4]) (ht : t.length ≤ 300) : NFun Tryz.prog 104 [.string (bs t), .string (bs [c])] (dRule (chkR c t ⟨(cutL 44 w2).map numL, numL w0, numL w4⟩)) := by
  have hsp := lib_SplitC t c (by omega)
  have hW : cutW c t = [bs w0, bs w1, bs w2, bs w3, bs w4] := by unfold cutW; rw [hw]; rfl
  rw [hW] at hsp
  have hlt := cutL_mem c t
  rw [hw] at hlt
  have n0 : PCalls Tryz.prog 74 [.string (bs w0)] (.int .i64 (numL w0)) := lib_number (bs w0) (by rw [bs_size]; have := hlt w0 (by simp); omega)
  have n4 : PCalls Tryz.prog 74 [.string (bs w4)] (.int .i64 (numL w4)) := lib_number (bs w4) (by rw [bs_size]; have := hlt w4 (by simp); omega)
  have nz := fun H : AH => impl_numbers_own H w2 44 (by have := hlt w2 (by simp); omega)
  have hzn : ((cutL 44 w2).map numL).length ≤ 1000000 := by rw [List.length_map]; have := cutL_len 44 w2; have := hlt w2 (by simp); omega
  have ix0 : ∀ H : AH, idxV Tryz.prog H 22 (islE strE [bs w0, bs w1, bs w2, bs w3, bs w4]) (.int .i64 0) = some (ip [.string (bs w0), .string (bs w1), .string (bs w2), .string (bs w3), .string (bs w4)]) := fun H => idxV_isl (P := Tryz.prog) (H := H) (n := 5) (k := 0) (kd := .i64) (cs := strE.flat [bs w0, bs w1, bs w2, bs w3, bs w4]) elZ22 (by omega)
  have ix2 : ∀ H : AH, idxV Tryz.prog H 22 (islE strE [bs w0, bs w1, bs w2, bs w3, bs w4]) (.int .i64 2) = some (ip [.string (bs w2), .string (bs w3), .string (bs w4)]) := fun H => idxV_isl (P := Tryz.prog) (H := H) (n := 5) (k := 2) (kd := .i64) (cs := strE.flat [bs w0, bs w1, bs w2, bs w3, bs w4]) elZ22 (by omega)
  have ix4 : ∀ H : AH, idxV Tryz.prog H 22 (islE strE [bs w0, bs w1, bs w2, bs w3, bs w4]) (.int .i64 4) = some (ip [.string (bs w4)]) := fun H => idxV_isl (P := Tryz.prog) (H := H) (n := 5) (k := 4) (kd := .i64) (cs := strE.flat [bs w0, bs w1, bs w2, bs w3, bs w4]) elZ22 (by omega)
  have ld : ∀ (H : AH) (w : ByteArray) (l : List Value), loadV Tryz.prog H 9 (ip (.string w :: l)) = some (.string w) := fun H w l => load_ip1 (P := Tryz.prog) (H := H) (T := 9) (p := 0) (cs := .string w :: l) lay9 rfl
  have h300 : ¬ (300 : Int) < (t.length : Int) := by omega
  have q3 : (((5 : Nat) : Int) == 3) = false := rfl
  have q5 : (((5 : Nat) : Int) == 5) = true := rfl
  clear hW hlt hw ht
  generalize (cutL 44 w2).map numL = zs at nz hzn ⊢
  generalize numL w0 = x0 at n0 ⊢
  generalize numL w4 = x4 at n4 ⊢
  have hbf := impl_RuleFault ⟨zs, x0, x4⟩ (by dsimp only; omega)
  have hbt := impl_ruleText ⟨zs, x0, x4⟩ c
  obtain ⟨R, hR⟩ : ∃ R : TRule × Bool, R = chkR c t ⟨zs, x0, x4⟩ := ⟨_, rfl⟩
  rw [← hR]
  unfold chkR at hR
  dsimp only at hR hbf hbt
  have hRH : Hid _ := hR
  clear hR
  unfold NFun
  refine ACalls.enter (n := 54) (rs := [.cell 4 115, .tmp 5]) Tryz.func104 rfl rfl rfl (by kernel_rfl) (by kernel_rfl) (by kernel_rfl) (Nat.le_of_ble_eq_true rfl) ?_
  repeat' (first | (refine ACalls.start ?_; first | (refine ACalls.ofJi (hsp) rfl ?_)) | (refine KV.run _ ?_) | (refine KT.run _ ?_) | (refine AWp.seqH fun KC => ?_) | (refine AWp.region ?_) | (refine AWp.skip ?_) | (refine aops_callH rfl fun kC => ?_) | (refine AWp.condB ?_) | (simp only [bse, wk, tys, storeH_ptr, Nat.reduceEqDiff, ↓reduceIte, reduceCtorEq, Nat.reduceAdd, Nat.reduceLeDiff, Int.reduceBEq, Int.reduceLT, Int.reduceLE, Int.reduceEq, ne_eq, not_false_eq_true, Nat.reduceMul, ruleE_val, ruleE_sz, *]))
  refine AWp.mixedV (id := 4) (.cons 0 0 (.cons 1 0 (.cons 2 0 (.cons 4 0 (.cons 5 0 (.cons 6 0 (.alt 3 1 (.alt 7 1 (.cons 8 0 (.cons 9 1 (.cons 10 2 .nil))) (.cons 9 1 (.cons 7 1 (.cons 8 0 (.cons 10 2 .nil))))) (.cons 9 1 (.cons 3 1 (.cons 7 1 (.cons 8 0 (.cons 10 2 .nil)))))))))))) (by kernel_rfl) (by kernel_rfl) ?_
  refine mopsT_abs fun e0 he0 => ?_
  have r6 := congrFun he0 6
  try simp only [bse, wk, tys, storeH_ptr, Nat.reduceEqDiff, ↓reduceIte, reduceCtorEq, Nat.reduceAdd, Nat.reduceLeDiff, Int.reduceBEq, Int.reduceLT, Int.reduceLE, Int.reduceEq, ne_eq, not_false_eq_true, Nat.reduceMul, ruleE_val, ruleE_sz] at r6
  have he1 : Hid _ := he0
  clear he0
  refine mopsT_mono (K := fun e' H' => Agree [7, 25, 26, 27, 28, 29, 30, 31, 32, 33] e0 e' ∧ (∃ (p q v : Nat) (G : AH), e' 7 = .pointer (some ⟨q + 1, 0, some 0⟩) ∧ H' = ⟨115, 0, [.slice none 0 0, .int .i64 0, .int .i64 0], 0, true⟩ :: G ∧ G[q]? = some ⟨115, 0, [.slice (some ⟨p + 1, 0, none⟩) zs.length v, .int .i64 x0, .int .i64 0], 0, true⟩ ∧ G[p]? = some ⟨2, 1, intE.flat zs, v, true⟩ ∧ p ≠ q)) ?cont _ _ _ ?leaf
  case leaf =>
    clear hbf hbt n4
    repeat' (first | (refine mopsT_step0 rfl rfl fun KC => ?_) | (refine mopsT_step1 rfl fun KC => ?_) | (refine mopsT_step2 rfl fun KC => ?_) | (refine mopsT_alt1 rfl (fun KC => ?_) ?_) | (refine ACalls.start ?_; first | (refine ACalls.ofJi (n0) rfl ?_) | (refine ACalls.get (nz _) (by first | exact Nat.le_refl _ | exact Nat.zero_le _ | (simp only [List.length_append, List.length_cons, List.length_nil]; omega) | (simp only [List.length_set]; omega) | omega) (by first | exact Nat.le_refl _ | exact Nat.zero_le _ | (simp only [List.length_append, List.length_cons, List.length_nil]; omega) | (simp only [List.length_set]; omega) | omega) ?_; rintro _ _ ⟨v, rfl, rfl⟩)) | (refine KV.run _ ?_) | (refine KT.run _ ?_) | (refine aops_callH rfl fun kC => ?_) | (simp only [bse, wk, tys, storeH_ptr, Nat.reduceEqDiff, ↓reduceIte, reduceCtorEq, Nat.reduceAdd, Nat.reduceLeDiff, Int.reduceBEq, Int.reduceLT, Int.reduceLE, Int.reduceEq, ne_eq, not_false_eq_true, Nat.reduceMul, ruleE_val, ruleE_sz, *]))
    all_goals exact ⟨(by repeat (first | exact Agree.refl _ _ | assumption | refine Agree.put ?_ rfl _)), _, _, _, _, rfl, rfl, rfl, rfl, by decide⟩
  rintro e' H' ⟨hA, p, q, v, G, e7, rfl, gq, gp, npq⟩
  have he2 := he1.out
  clear he1
  have a0 := hA 0 rfl
  have a1 := hA 1 rfl
  have a4 := hA 4 rfl
  have a5 := hA 5 rfl
  have a6 := hA 6 rfl
  rw [he2] at a0 a1 a4 a5 a6
  try simp only [bse, wk, tys, storeH_ptr, Nat.reduceEqDiff, ↓reduceIte, reduceCtorEq, Nat.reduceAdd, Nat.reduceLeDiff, Int.reduceBEq, Int.reduceLT, Int.reduceLE, Int.reduceEq, ne_eq, not_false_eq_true, Nat.reduceMul, ruleE_val, ruleE_sz] at a0 a1 a4 a5 a6
  clear hA he2
  clear nz n0 ix0 ix2
  have gs : ∀ b : Blk, (G.set q b)[q]? = some b := fun b => List.getElem?_set_self (lt_of_some gq)
  have gt : ∀ b : Blk, (G.set q b)[p]? = some ⟨2, 1, intE.flat zs, v, true⟩ := fun b => (List.getElem?_set_ne (fun e => npq e.symm)).trans gp
  have hba : Bor (⟨115, 0, [.slice none 0 0, .int .i64 0, .int .i64 0], 0, true⟩ :: G.set q ⟨115, 0, [.slice (some ⟨p + 1, 0, none⟩) zs.length v, .int .i64 x0, .int .i64 x4], 0, true⟩) (.agg #[.slice (some ⟨p + 1, 0, none⟩) zs.length v, .int .i64 x0, .int .i64 x4]) (ruleE.val ⟨zs, x0, x4⟩) := Bor.aggL (.cons (Bor.sbE (E := intE) (r := p + 1) (el := 2) (ver := v) (o := true) (ys := zs) (by rw [List.getElem?_cons_succ]; exact gt _) (fun _ => rfl) rfl) (.cons (.same _ (.flat _ rfl)) (.cons (.same _ (.flat _ rfl)) .nil)))
  by_cases hf : ruleFault zs x0 x4 = 0
  · rw [hf] at hbf
    have hbt := hbt hf
    have hct : (bs (ruleT c ⟨zs, x0, x4⟩) == bs t) = (ruleT c ⟨zs, x0, x4⟩ == t) := bs_beq _ _
    by_cases hT : ruleT c ⟨zs, x0, x4⟩ = t
    · have hR2 : R = (⟨zs, x0, x4⟩, true) := by rw [hRH.out, if_pos ⟨hf, hT⟩]
      have hct' : (bs (ruleT c ⟨zs, x0, x4⟩) == bs t) = true := by rw [hct]; simpa using hT
      subst hR2
      clear hct hT hf hRH
      generalize ruleT c ⟨zs, x0, x4⟩ = T at hbt hct'
      repeat' (first | (refine ACalls.start ?_; first | (refine ACalls.ofJi (n4) rfl ?_)) | (refine KV.run _ ?_) | (refine KT.run _ ?_) | (refine AWp.seqH fun KC => ?_) | (refine AWp.region ?_) | (refine aops_callH rfl fun kC => ?_) | (refine AWp.condB ?_) | (simp only [bse, wk, tys, storeH_ptr, Nat.reduceEqDiff, ↓reduceIte, reduceCtorEq, Nat.reduceAdd, Nat.reduceLeDiff, Int.reduceBEq, Int.reduceLT, Int.reduceLE, Int.reduceEq, ne_eq, not_false_eq_true, Nat.reduceMul, ruleE_val, ruleE_sz, *]))
      refine ACalls.ofP hbf (.cons hba .nil) rfl ?_
      repeat' (first | (refine KV.run _ ?_) | (refine aops_callH rfl fun kC => ?_) | (simp only [bse, wk, tys, storeH_ptr, Nat.reduceEqDiff, ↓reduceIte, reduceCtorEq, Nat.reduceAdd, Nat.reduceLeDiff, Int.reduceBEq, Int.reduceLT, Int.reduceLE, Int.reduceEq, ne_eq, not_false_eq_true, Nat.reduceMul, ruleE_val, ruleE_sz, *]))
      refine ACalls.ofP hbt (.cons hba (.cons (.same _ (.flat _ rfl)) .nil)) rfl ?_
      repeat' (first | (refine KV.run _ ?_) | (refine KT.run _ ?_) | (refine AWp.seqH fun KC => ?_) | (refine AWp.region ?_) | (refine AWp.ret ?_) | (refine AWp.skip ?_) | (refine AWp.condB ?_) | (simp only [bse, wk, tys, storeH_ptr, Nat.reduceEqDiff, ↓reduceIte, reduceCtorEq, Nat.reduceAdd, Nat.reduceLeDiff, Int.reduceBEq, Int.reduceLT, Int.reduceLE, Int.reduceEq, ne_eq, not_false_eq_true, Nat.reduceMul, ruleE_val, ruleE_sz, *]))
      exact NFOut.one (p + 1) (by rw [List.getElem?_cons_succ]; exact gt _) (.inr ⟨rfl, v, rfl, rfl⟩) rfl
    · have hR2 : R = (rule0, false) := by rw [hRH.out, if_neg fun h => hT h.2]
      have hct' : (bs (ruleT c ⟨zs, x0, x4⟩) == bs t) = false := by rw [hct]; simpa using hT
      subst hR2
      clear hct hT hf hRH
      generalize ruleT c ⟨zs, x0, x4⟩ = T at hbt hct'
      repeat' (first | (refine ACalls.start ?_; first | (refine ACalls.ofJi (n4) rfl ?_)) | (refine KV.run _ ?_) | (refine KT.run _ ?_) | (refine AWp.seqH fun KC => ?_) | (refine AWp.region ?_) | (refine aops_callH rfl fun kC => ?_) | (refine AWp.condB ?_) | (simp only [bse, wk, tys, storeH_ptr, Nat.reduceEqDiff, ↓reduceIte, reduceCtorEq, Nat.reduceAdd, Nat.reduceLeDiff, Int.reduceBEq, Int.reduceLT, Int.reduceLE, Int.reduceEq, ne_eq, not_false_eq_true, Nat.reduceMul, ruleE_val, ruleE_sz, *]))
      refine ACalls.ofP hbf (.cons hba .nil) rfl ?_
      repeat' (first | (refine KV.run _ ?_) | (refine aops_callH rfl fun kC => ?_) | (simp only [bse, wk, tys, storeH_ptr, Nat.reduceEqDiff, ↓reduceIte, reduceCtorEq, Nat.reduceAdd, Nat.reduceLeDiff, Int.reduceBEq, Int.reduceLT, Int.reduceLE, Int.reduceEq, ne_eq, not_false_eq_true, Nat.reduceMul, ruleE_val, ruleE_sz, *]))
      refine ACalls.ofP hbt (.cons hba (.cons (.same _ (.flat _ rfl)) .nil)) rfl ?_
      repeat' (first | (refine KV.run _ ?_) | (refine KT.run _ ?_) | (refine AWp.seqH fun KC => ?_) | (refine AWp.region ?_) | (refine AWp.ret ?_) | (refine AWp.condB ?_) | (simp only [bse, wk, tys, storeH_ptr, Nat.reduceEqDiff, ↓reduceIte, reduceCtorEq, Nat.reduceAdd, Nat.reduceLeDiff, Int.reduceBEq, Int.reduceLT, Int.reduceLE, Int.reduceEq, ne_eq, not_false_eq_true, Nat.reduceMul, ruleE_val, ruleE_sz, *]))
      exact NFOut.none (.inl ⟨rfl, rfl, rfl⟩) rfl
  · have hR2 : R = (rule0, false) := by rw [hRH.out, if_neg fun h => hf h.1]
    have hf' : (ruleFault zs x0 x4 == 0) = false := by simpa using hf
    subst hR2
    clear hbt hf hRH
    generalize ruleFault zs x0 x4 = F at hbf hf'
    repeat' (first | (refine ACalls.start ?_; first | (refine ACalls.ofJi (n4) rfl ?_)) | (refine KV.run _ ?_) | (refine KT.run _ ?_) | (refine AWp.seqH fun KC => ?_) | (refine AWp.region ?_) | (refine aops_callH rfl fun kC => ?_) | (refine AWp.condB ?_) | (simp only [bse, wk, tys, storeH_ptr, Nat.reduceEqDiff, ↓reduceIte, reduceCtorEq, Nat.reduceAdd, Nat.reduceLeDiff, Int.reduceBEq, Int.reduceLT, Int.reduceLE, Int.reduceEq, ne_eq, not_false_eq_true, Nat.reduceMul, ruleE_val, ruleE_sz, *]))
    refine ACalls.ofP hbf (.cons hba .nil) rfl ?_
    repeat' (first | (refine KV.run _ ?_) | (refine KT.run _ ?_) | (refine AWp.seqH fun KC => ?_) | (refine AWp.region ?_) | (refine AWp.ret ?_) | (refine AWp.condB ?_) | (simp only [bse, wk, tys, storeH_ptr, Nat.reduceEqDiff, ↓reduceIte, reduceCtorEq, Nat.reduceAdd, Nat.reduceLeDiff, Int.reduceBEq, Int.reduceLT, Int.reduceLE, Int.reduceEq, ne_eq, not_false_eq_true, Nat.reduceMul, ruleE_val, ruleE_sz, *]))
    exact NFOut.none (.inl ⟨rfl, rfl, rfl⟩) rfl
end Go.BM
/- A rule and an out, read out of texts: the program. -/
set_option linter.unusedVariables false
set_option linter.unusedSimpArgs false
set_option maxRecDepth 100000
set_option maxHeartbeats 4000000
namespace Go.BM
open Go.Proofs Go.RowKit
attribute [local irreducible] ACalls AWp aops qops optK optP cK gateA condK mops qcallK PCalls loadV fldV idxV lenV slV storeH binS
theorem impl_readRule (t : List UInt8) (c : UInt8) (ht : t.length ≤ 1000000) : NFun Tryz.prog 104 [.string (bs t), .string (bs [c])] (dRule (readR c t)) := by
  by_cases h3 : 300 < t.length
  · have hr : readR c t = (rule0, false) := by unfold readR; rw [if_pos h3]
    rw [hr]
    have h3' : (300 : Int) < (t.length : Int) := by omega
    have hsp := lib_SplitC t c (by omega)
    clear hr
    unfold NFun
    refine ACalls.enter (n := 54) (rs := [.cell 4 115, .tmp 5]) Tryz.func104 rfl rfl rfl (by kernel_rfl) (by kernel_rfl) (by kernel_rfl) (Nat.le_of_ble_eq_true rfl) ?_
    repeat' (first | (refine ACalls.start ?_; first | (refine ACalls.ofJi (hsp) rfl ?_)) | (refine KV.run _ ?_) | (refine KT.run _ ?_) | (refine AWp.seqH fun KC => ?_) | (refine AWp.region ?_) | (refine AWp.ret ?_) | (refine aops_callH rfl fun kC => ?_) | (refine AWp.condB ?_) | (simp only [bse, wk, tys, storeH_ptr, Nat.reduceEqDiff, ↓reduceIte, reduceCtorEq, Nat.reduceAdd, Nat.reduceLeDiff, Int.reduceBEq, Int.reduceLT, Int.reduceLE, Int.reduceEq, ne_eq, not_false_eq_true, Nat.reduceMul, ruleE_val, ruleE_sz, *]))
    exact NFOut.none (.inl ⟨rfl, rfl, rfl⟩) rfl
  · unfold readR
    rw [if_neg h3]
    split
    · rename_i w0 w1 w2 hw
      exact readRule3 t c _ _ _ hw (by omega)
    · rename_i w0 w1 w2 w3 w4 hw
      exact readRule5 t c _ _ _ _ _ hw (by omega)
    · rename_i n3 n5
      have hcl : (cutW c t).length = (cutL c t).length := List.length_map ..
      have l3 : (cutL c t).length ≠ 3 := fun e => by
        match hq : cutL c t, e with
        | [a, b, d], _ => exact n3 a b d hq
      have l5 : (cutL c t).length ≠ 5 := fun e => by
        match hq : cutL c t, e with
        | [a, b, d, f, g], _ => exact n5 a b d f g hq
      have q3 : (((cutW c t).length : Int) == 3) = false := by rw [hcl]; simp; omega
      have q5 : (((cutW c t).length : Int) == 5) = false := by rw [hcl]; simp; omega
      have h3' : ¬ (300 : Int) < (t.length : Int) := by omega
      have hsp := lib_SplitC t c (by omega)
      clear l3 l5 hcl n3 n5
      unfold NFun
      refine ACalls.enter (n := 54) (rs := [.cell 4 115, .tmp 5]) Tryz.func104 rfl rfl rfl (by kernel_rfl) (by kernel_rfl) (by kernel_rfl) (Nat.le_of_ble_eq_true rfl) ?_
      repeat' (first | (refine ACalls.start ?_; first | (refine ACalls.ofJi (hsp) rfl ?_)) | (refine KV.run _ ?_) | (refine KT.run _ ?_) | (refine AWp.seqH fun KC => ?_) | (refine AWp.region ?_) | (refine AWp.ret ?_) | (refine aops_callH rfl fun kC => ?_) | (refine AWp.condB ?_) | (simp only [bse, wk, tys, storeH_ptr, Nat.reduceEqDiff, ↓reduceIte, reduceCtorEq, Nat.reduceAdd, Nat.reduceLeDiff, Int.reduceBEq, Int.reduceLT, Int.reduceLE, Int.reduceEq, ne_eq, not_false_eq_true, Nat.reduceMul, ruleE_val, ruleE_sz, *]))
      exact NFOut.none (.inl ⟨rfl, rfl, rfl⟩) rfl
/-- An out that was read, told. -/
def dOut (x : Int) (R : TRule × Bool) (bs : List Blk) (F : (Nat → Nat) → Value) : Prop :=
  (R = (rule0, false) ∧ bs = [] ∧ F = fun _ => .tuple #[.agg #[.int .i64 x, .slice none 0 0, .int .i64 0, .int .i64 0], .bool false]) ∨
  (R.2 = true ∧ ∃ ver : Nat, bs = [⟨2, 1, intE.flat R.1.keys, ver, true⟩] ∧ F = fun ρ => .tuple #[.agg #[.int .i64 x, .slice (some ⟨ρ 0, 0, none⟩) R.1.keys.length ver, .int .i64 R.1.need, .int .i64 R.1.after], .bool true])
theorem dOut_sh {x : Int} {R : TRule × Bool} : ∀ bs F, dOut x R bs F → Shp bs F := by
  rintro _ _ (⟨_, rfl, rfl⟩ | ⟨_, ver, rfl, rfl⟩)
  · exact Shp.none fun N ρ k => LifL.tupL (.cons (LifL.aggL (.cons (.flat _ rfl) (.cons .nil (.cons (.flat _ rfl) (.cons (.flat _ rfl) .nil))))) (.cons (.flat _ rfl) .nil))
  · exact Shp.one (intE_flat _) fun N ρ k => LifL.tupL (.cons (LifL.aggL (.cons (.flat _ rfl) (.cons (.slice 0 0 none _ _ (by decide)) (.cons (.flat _ rfl) (.cons (.flat _ rfl) .nil))))) (.cons (.flat _ rfl) .nil))
theorem impl_readOut (t : List UInt8) (ht : t.length ≤ 1000000) : NFun Tryz.prog 85 [.string (bs t)] (dOut (numL (cutAt 61 t).1) (readR 95 (cutAt 61 t).2.1)) := by
  have hl := cutAt_len 61 t
  have hc := lib_Cut t 61 (by omega)
  have hr := impl_readRule (cutAt 61 t).2.1 95 (by omega)
  have hn : PCalls Tryz.prog 74 [.string (bs (cutAt 61 t).1)] (.int .i64 (numL (cutAt 61 t).1)) := lib_number (bs (cutAt 61 t).1) (by rw [bs_size]; omega)
  generalize (cutAt 61 t).1 = w0 at hn hc ⊢
  generalize (cutAt 61 t).2.1 = w1 at hr hc ⊢
  generalize (cutAt 61 t).2.2 = b at hc
  clear hl
  unfold NFun
  refine ACalls.enter (n := 25) (rs := [.cell 2 120, .tmp 3]) Tryz.func85 rfl rfl rfl (by kernel_rfl) (by kernel_rfl) (by kernel_rfl) (Nat.le_of_ble_eq_true rfl) ?_
  repeat' (first | (refine ACalls.start ?_; first | (refine ACalls.ofJi (hc) rfl ?_)) | (refine KV.run _ ?_) | (refine KT.run _ ?_) | (refine AWp.seqH fun KC => ?_) | (refine AWp.region ?_) | (refine aops_callH rfl fun kC => ?_) | (simp only [bse, wk, tys, storeH_ptr, Nat.reduceEqDiff, ↓reduceIte, reduceCtorEq, Nat.reduceAdd, Nat.reduceLeDiff, Int.reduceBEq, Int.reduceLT, Int.reduceLE, Int.reduceEq, ne_eq, not_false_eq_true, Nat.reduceMul, ruleE_val, ruleE_sz, *]))
  refine ACalls.get (hr.use dRule_sh (.cons (.same _ (.flat _ rfl)) (.cons (.same _ (.flat _ rfl)) .nil))) (by first | exact Nat.le_refl _ | exact Nat.zero_le _ | (simp only [List.length_append, List.length_cons, List.length_nil]; omega) | (simp only [List.length_set]; omega) | omega) (by first | exact Nat.le_refl _ | exact Nat.zero_le _ | (simp only [List.length_append, List.length_cons, List.length_nil]; omega) | (simp only [List.length_set]; omega) | omega) ?_
  rintro _ _ ⟨_, _, ⟨hR, rfl, rfl⟩ | ⟨hR, v, rfl, rfl⟩, rfl, rfl⟩
  · repeat' (first | (refine AWp.mixed (id := 3) [(0, 0), (2, 0), (4, 0), (1, 1), (3, 0), (5, 2), (6, 0)] (by kernel_rfl) (by kernel_rfl) ?_) | (refine ACalls.start ?_; first | (refine ACalls.ofJi (hn) rfl ?_)) | (refine qcall_start ?_; first | (refine qcallFi (hn) rfl ?_ ?_; (focus ((first | exact rfl | (simp [pureV, flatV, ruleE_val, ruleE_sz]; done)))))) | (refine KV.run _ ?_) | (refine KQ.run _ ?_) | (refine KT.run _ ?_) | (refine AWp.seqH fun KC => ?_) | (refine AWp.block ?_) | (refine AWp.region ?_) | (refine mops_step0 rfl rfl fun KC => ?_) | (refine mops_step1 rfl fun KC => ?_) | (refine mops_step2 rfl fun KC => ?_) | (refine AWp.ret ?_) | (refine AWp.skip ?_) | (refine AWp.exit ?_) | (refine aops_callH rfl fun kC => ?_) | (refine qops_callH rfl fun kC => ?_) | (refine AWp.condB ?_) | (simp only [bse, wk, tys, storeH_ptr, Nat.reduceEqDiff, ↓reduceIte, reduceCtorEq, Nat.reduceAdd, Nat.reduceLeDiff, Int.reduceBEq, Int.reduceLT, Int.reduceLE, Int.reduceEq, ne_eq, not_false_eq_true, Nat.reduceMul, ruleE_val, ruleE_sz, *]) | (refine condK_bool (fun hb => ?_) (fun hb => ?_) <;> ((try simp only [Bool.not_eq_true', Bool.not_eq_false'] at hb) <;> (try (have hbe := of_decide_eq_true hb)) <;> (try (have hbe := eq_of_beq hb)))) | (refine aops_partB ?_) | (refine qops_partB ?_))
    exact NFOut.none (.inl ⟨rfl, rfl, rfl⟩) rfl
  · repeat' (first | (refine AWp.mixed (id := 3) [(0, 0), (2, 0), (4, 0), (1, 1), (3, 0), (5, 2), (6, 0)] (by kernel_rfl) (by kernel_rfl) ?_) | (refine ACalls.start ?_; first | (refine ACalls.ofJi (hn) rfl ?_)) | (refine qcall_start ?_; first | (refine qcallFi (hn) rfl ?_ ?_; (focus ((first | exact rfl | (simp [pureV, flatV, ruleE_val, ruleE_sz]; done)))))) | (refine KV.run _ ?_) | (refine KQ.run _ ?_) | (refine KT.run _ ?_) | (refine AWp.seqH fun KC => ?_) | (refine AWp.block ?_) | (refine AWp.region ?_) | (refine mops_step0 rfl rfl fun KC => ?_) | (refine mops_step1 rfl fun KC => ?_) | (refine mops_step2 rfl fun KC => ?_) | (refine AWp.ret ?_) | (refine AWp.skip ?_) | (refine AWp.exit ?_) | (refine aops_callH rfl fun kC => ?_) | (refine qops_callH rfl fun kC => ?_) | (refine AWp.condB ?_) | (simp only [bse, wk, tys, storeH_ptr, Nat.reduceEqDiff, ↓reduceIte, reduceCtorEq, Nat.reduceAdd, Nat.reduceLeDiff, Int.reduceBEq, Int.reduceLT, Int.reduceLE, Int.reduceEq, ne_eq, not_false_eq_true, Nat.reduceMul, ruleE_val, ruleE_sz, *]) | (refine condK_bool (fun hb => ?_) (fun hb => ?_) <;> ((try simp only [Bool.not_eq_true', Bool.not_eq_false'] at hb) <;> (try (have hbe := of_decide_eq_true hb)) <;> (try (have hbe := eq_of_beq hb)))) | (refine aops_partB ?_) | (refine qops_partB ?_))
    exact NFOut.one 1 rfl (.inr ⟨hR, v, rfl, rfl⟩) rfl
end Go.BM
/- Package slices. -/
set_option linter.unusedVariables false
set_option linter.unusedSimpArgs false
set_option maxRecDepth 100000
set_option maxHeartbeats 4000000
namespace Go.BM
open Go.Proofs Go.RowKit
attribute [local irreducible] ACalls AWp aops qops optK optP cK gateA condK mops qcallK PCalls loadV fldV idxV lenV slV storeH binS

theorem lib_Index_Ref (xs : List TRef) (y : TRef) (hn : xs.length < 4611686018427387904) :
    PCalls Tryz.prog 122 [islE refE xs, refE.val y] (.int .i64 (findI (fun x => y.tx == x.tx && y.at' == x.at') xs)) := by
  refine PCalls.flat rfl ?_; refine ACalls.enter (n := 19) (rs := [.tmp 4]) Tryz.func122 rfl rfl rfl (by kernel_rfl) (by kernel_rfl) (by kernel_rfl) (Nat.le_of_ble_eq_true rfl) ?_
  repeat' (first | (refine KT.run _ ?_) | (refine AWp.seqH fun KC => ?_) | (refine AWp.block ?_) | (refine AWp.region ?_) | (simp only [bse, wk, tys, storeH_ptr, Nat.reduceEqDiff, ↓reduceIte, reduceCtorEq, Nat.reduceAdd, Nat.reduceLeDiff, Int.reduceBEq, Int.reduceLT, Int.reduceLE, Int.reduceEq, ne_eq, not_false_eq_true, Nat.reduceMul, refE_val, refE_sz, *]))
  refine AWp.loopH [9, 10, 5, 11, 12, 13, 14, 15, 16, 17, 4, 18, 8] (fun m e' H' => ∃ (k : Nat) (G : AH), k ≤ xs.length ∧ m = xs.length - k ∧ e' 8 = .int .i64 k ∧ H' = _ :: G ∧ Hid (∀ j (hj : j < xs.length), j < k → (y.tx == xs[j].tx && y.at' == xs[j].at') = false)) xs.length ⟨0, [], by omega, by omega, rfl, rfl, fun j _ h => by omega⟩ ?_
  rintro m e' H' hA ⟨k, G, hk, rfl, h8, rfl, hno⟩ hJ
  have a0 := hA 0 rfl; have a3 := hA 3 rfl; have a7 := hA 7 rfl; try simp only [bse, wk, tys, storeH_ptr, Nat.reduceEqDiff, ↓reduceIte, reduceCtorEq, Nat.reduceAdd, Nat.reduceLeDiff, Int.reduceBEq, Int.reduceLT, Int.reduceLE, Int.reduceEq, ne_eq, not_false_eq_true, Nat.reduceMul] at a0 a3 a7; clear hA
  by_cases hlt : k < xs.length
  · have hlt' : (k : Int) < (xs.length : Int) := by omega
    have hw := wr_succ (k := k) (by omega)
    cases hcc : (y.tx == xs[k].tx && y.at' == xs[k].at') with
    | true =>
      repeat' (first | (refine AWp.quiet (id := 4) (by kernel_rfl) (by kernel_rfl) ?_) | (refine KT.run _ ?_) | (refine AWp.seqH fun KC => ?_) | (refine AWp.block ?_) | (refine AWp.region ?_) | (refine AWp.ret ?_) | (refine AWp.skip ?_) | (refine AWp.condB ?_) | (simp only [bse, wk, tys, storeH_ptr, Nat.reduceEqDiff, ↓reduceIte, reduceCtorEq, Nat.reduceAdd, Nat.reduceLeDiff, Int.reduceBEq, Int.reduceLT, Int.reduceLE, Int.reduceEq, ne_eq, not_false_eq_true, Nat.reduceMul, refE_val, refE_sz, *]))
      rw [findI_hit (fun x => y.tx == x.tx && y.at' == x.at') xs k hlt hno.out hcc]
    | false =>
      repeat' (first | (refine AWp.quiet (id := 4) (by kernel_rfl) (by kernel_rfl) ?_) | (refine KT.run _ ?_) | (refine AWp.seqH fun KC => ?_) | (refine AWp.block ?_) | (refine AWp.region ?_) | (refine AWp.skip ?_) | (refine AWp.condB ?_) | (simp only [bse, wk, tys, storeH_ptr, Nat.reduceEqDiff, ↓reduceIte, reduceCtorEq, Nat.reduceAdd, Nat.reduceLeDiff, Int.reduceBEq, Int.reduceLT, Int.reduceLE, Int.reduceEq, ne_eq, not_false_eq_true, Nat.reduceMul, refE_val, refE_sz, *]))
      refine hJ.out _ _ ⟨xs.length - (k + 1), by omega, k + 1, _, by omega, rfl, rfl, rfl, fun j hj hjk => ?_⟩ (by repeat (first | exact Agree.refl _ _ | assumption | refine Agree.put ?_ rfl _))
      by_cases e : j = k
      · subst e; exact hcc
      · exact hno.out j hj (by omega)
  · have hlt' : ¬ (k : Int) < (xs.length : Int) := by omega
    repeat' (first | (refine KT.run _ ?_) | (refine AWp.seqH fun KC => ?_) | (refine AWp.region ?_) | (refine AWp.ret ?_) | (refine AWp.exit ?_) | (refine AWp.condB ?_) | (simp only [bse, wk, tys, storeH_ptr, Nat.reduceEqDiff, ↓reduceIte, reduceCtorEq, Nat.reduceAdd, Nat.reduceLeDiff, Int.reduceBEq, Int.reduceLT, Int.reduceLE, Int.reduceEq, ne_eq, not_false_eq_true, Nat.reduceMul, refE_val, refE_sz, *]))
    rw [findI_none (fun x => y.tx == x.tx && y.at' == x.at') xs (fun j hj => hno.out j hj (by omega))]


theorem lib_Contains_Ref (xs : List TRef) (y : TRef) (hn : xs.length < 4611686018427387904) :
    PCalls Tryz.prog 107 [islE refE xs, refE.val y] (.bool (xs.any fun x => y.tx == x.tx && y.at' == x.at')) := by
  have hz := findI_any (fun x => y.tx == x.tx && y.at' == x.at') xs
  refine PCalls.flat rfl ?_; refine ACalls.enter (n := 9) (rs := [.tmp 4]) Tryz.func107 rfl rfl rfl (by kernel_rfl) (by kernel_rfl) (by kernel_rfl) (Nat.le_of_ble_eq_true rfl) ?_
  repeat' (first | (refine ACalls.start ?_; first | (refine ACalls.ofJi (lib_Index_Ref xs y hn) rfl ?_)) | (refine KV.run _ ?_) | (refine KT.run _ ?_) | (refine AWp.seqH fun KC => ?_) | (refine AWp.region ?_) | (refine AWp.ret ?_) | (refine aops_callH rfl fun kC => ?_) | (simp only [bse, wk, tys, storeH_ptr, Nat.reduceEqDiff, ↓reduceIte, reduceCtorEq, Nat.reduceAdd, Nat.reduceLeDiff, Int.reduceBEq, Int.reduceLT, Int.reduceLE, Int.reduceEq, ne_eq, not_false_eq_true, Nat.reduceMul, refE_val, refE_sz, *]))

end Go.BM
