/- BlockIn: the reference. -/
import Derived.Test.YtboephigjgncaaaGreatDoorK7
import Derived.Test.YtboephigjgncaaaGreatDoorK9
set_option linter.unusedVariables false
set_option linter.unusedSimpArgs false
set_option maxRecDepth 100000
set_option maxHeartbeats 4000000
namespace Go.BM
open Go.Proofs Go.RowKit
attribute [local irreducible] ACalls AWp aops qops optK optP cK gateA condK mops qcallK PCalls loadV fldV idxV lenV slV storeH binS
def parR (t : List UInt8) : TBlockResult := if (parB t).2 then ⟨0, (parB t).1⟩ else ⟨5, blk0⟩
theorem parR_read (t : List UInt8) (h : t.length ≤ 300) : parR t = if (readB t).2 then ⟨0, (readB t).1⟩ else ⟨5, blk0⟩ := by
  obtain ⟨h1, h2⟩ := par_read t h
  unfold parR
  cases hq : (parB t).2 with
  | true => rw [h2 hq, ← h1, hq]
  | false => rw [← h1, hq]; rfl
theorem spec_ParseBlock (t : List UInt8) (ht : t.length ≤ 300) : PCalls Tryz.prog 22 [.string (bs t)] (blockResultE.val (parR t)) := by
  have hp := spec_l7Parse t ht
  unfold parR
  generalize parB t = R at hp ⊢
  obtain ⟨⟨x1, x2, x3, zs⟩, ok⟩ := R
  dsimp only at hp ⊢
  simp only [blockE_val] at hp
  cases ok with
  | true =>
    simp only [if_true]
    refine PCalls.of ?_; refine ACalls.enter (n := 15) (rs := [.cell 2 31]) Tryz.func22 rfl rfl rfl (by kernel_rfl) (by kernel_rfl) (by kernel_rfl) (Nat.le_of_ble_eq_true rfl) ?_
    repeat' (first | (refine ACalls.start ?_; first | (refine ACalls.ofJi (hp) rfl ?_)) | (refine qcall_start ?_; first | (refine qcallFi (hp) rfl ?_ ?_; (focus ((first | exact rfl | (simp [pureV, flatV, blockE_val, blockE_sz, blockResultE_val, blockResultE_sz, ledgerE_val, ledgerE_sz, textResultE_val, textResultE_sz]; done)))))) | (refine KV.run _ ?_) | (refine KQ.run _ ?_) | (refine KT.run _ ?_) | (refine AWp.seqH fun KC => ?_) | (refine AWp.block ?_) | (refine AWp.region ?_) | (refine mops_step0 rfl rfl fun KC => ?_) | (refine mops_step1 rfl fun KC => ?_) | (refine mops_step2 rfl fun KC => ?_) | (refine AWp.ret ?_) | (refine AWp.skip ?_) | (refine AWp.exit ?_) | (refine aops_callH rfl fun kC => ?_) | (refine qops_callH rfl fun kC => ?_) | (refine AWp.condB ?_) | (simp only [bse, wk, tys, storeH_ptr, Nat.reduceEqDiff, ↓reduceIte, reduceCtorEq, Nat.reduceAdd, Nat.reduceLeDiff, Int.reduceBEq, Int.reduceLT, Int.reduceLE, Int.reduceEq, ne_eq, not_false_eq_true, Nat.reduceMul, blockE_val, blockE_sz, blockResultE_val, blockResultE_sz, ledgerE_val, ledgerE_sz, textResultE_val, textResultE_sz, *]) | (refine condK_bool (fun hb => ?_) (fun hb => ?_) <;> ((try simp only [Bool.not_eq_true', Bool.not_eq_false'] at hb) <;> (try (have hbe := of_decide_eq_true hb)) <;> (try (have hbe := eq_of_beq hb)))) | (refine aops_partB ?_) | (refine qops_partB ?_))
    all_goals first | exact .same _ (Enc.val_im blockResultE ⟨0, ⟨x1, x2, x3, zs⟩⟩) | skip
  | false =>
    simp only [Bool.false_eq_true, if_false]
    refine PCalls.of ?_; refine ACalls.enter (n := 15) (rs := [.cell 2 31]) Tryz.func22 rfl rfl rfl (by kernel_rfl) (by kernel_rfl) (by kernel_rfl) (Nat.le_of_ble_eq_true rfl) ?_
    repeat' (first | (refine ACalls.start ?_; first | (refine ACalls.ofJi (hp) rfl ?_)) | (refine qcall_start ?_; first | (refine qcallFi (hp) rfl ?_ ?_; (focus ((first | exact rfl | (simp [pureV, flatV, blockE_val, blockE_sz, blockResultE_val, blockResultE_sz, ledgerE_val, ledgerE_sz, textResultE_val, textResultE_sz]; done)))))) | (refine KV.run _ ?_) | (refine KQ.run _ ?_) | (refine KT.run _ ?_) | (refine AWp.seqH fun KC => ?_) | (refine AWp.block ?_) | (refine AWp.region ?_) | (refine mops_step0 rfl rfl fun KC => ?_) | (refine mops_step1 rfl fun KC => ?_) | (refine mops_step2 rfl fun KC => ?_) | (refine AWp.ret ?_) | (refine AWp.skip ?_) | (refine AWp.exit ?_) | (refine aops_callH rfl fun kC => ?_) | (refine qops_callH rfl fun kC => ?_) | (refine AWp.condB ?_) | (simp only [bse, wk, tys, storeH_ptr, Nat.reduceEqDiff, ↓reduceIte, reduceCtorEq, Nat.reduceAdd, Nat.reduceLeDiff, Int.reduceBEq, Int.reduceLT, Int.reduceLE, Int.reduceEq, ne_eq, not_false_eq_true, Nat.reduceMul, blockE_val, blockE_sz, blockResultE_val, blockResultE_sz, ledgerE_val, ledgerE_sz, textResultE_val, textResultE_sz, *]) | (refine condK_bool (fun hb => ?_) (fun hb => ?_) <;> ((try simp only [Bool.not_eq_true', Bool.not_eq_false'] at hb) <;> (try (have hbe := of_decide_eq_true hb)) <;> (try (have hbe := eq_of_beq hb)))) | (refine aops_partB ?_) | (refine qops_partB ?_))
    exact Bor.aggL (.cons (.same _ (.flat _ rfl)) (.cons (.same _ (.flat _ rfl)) (.cons (.same _ (.flat _ rfl)) (.cons (.same _ (.flat _ rfl)) (.cons .nil .nil)))))
theorem spec_BlockIn (l : TLedger) (id : Int) (h : nLedger l ≤ 1048576) : PCalls Tryz.prog 6 [ledgerE.val l, .int .i64 id] (blockResultE.val (blockInF l id)) := by
  have ht := spec_TextOf l id h
  unfold textOfF at ht
  unfold blockInF blkIn
  cases hf : (ledgerFault l == 0) with
  | false =>
    rw [hf] at ht
    simp only [Bool.false_eq_true, if_false] at ht
    simp only [Bool.not_false, if_true]
    generalize ledgerFault l = F at hf ht ⊢
    clear h
    refine PCalls.of ?_; refine ACalls.enter (n := 18) (rs := [.cell 4 31]) Tryz.func6 rfl rfl rfl (by kernel_rfl) (by kernel_rfl) (by kernel_rfl) (Nat.le_of_ble_eq_true rfl) ?_
    repeat' (first | (refine ACalls.start ?_; first | (refine ACalls.ofJi (ht) rfl ?_)) | (refine qcall_start ?_; first | (refine qcallFi (ht) rfl ?_ ?_; (focus ((first | exact rfl | (simp [pureV, flatV, blockE_val, blockE_sz, blockResultE_val, blockResultE_sz, ledgerE_val, ledgerE_sz, textResultE_val, textResultE_sz]; done)))))) | (refine KV.run _ ?_) | (refine KQ.run _ ?_) | (refine KT.run _ ?_) | (refine AWp.seqH fun KC => ?_) | (refine AWp.block ?_) | (refine AWp.region ?_) | (refine mops_step0 rfl rfl fun KC => ?_) | (refine mops_step1 rfl fun KC => ?_) | (refine mops_step2 rfl fun KC => ?_) | (refine AWp.ret ?_) | (refine AWp.skip ?_) | (refine AWp.exit ?_) | (refine aops_callH rfl fun kC => ?_) | (refine qops_callH rfl fun kC => ?_) | (refine AWp.condB ?_) | (simp only [bse, wk, tys, storeH_ptr, Nat.reduceEqDiff, ↓reduceIte, reduceCtorEq, Nat.reduceAdd, Nat.reduceLeDiff, Int.reduceBEq, Int.reduceLT, Int.reduceLE, Int.reduceEq, ne_eq, not_false_eq_true, Nat.reduceMul, blockE_val, blockE_sz, blockResultE_val, blockResultE_sz, ledgerE_val, ledgerE_sz, textResultE_val, textResultE_sz, *]) | (refine condK_bool (fun hb => ?_) (fun hb => ?_) <;> ((try simp only [Bool.not_eq_true', Bool.not_eq_false'] at hb) <;> (try (have hbe := of_decide_eq_true hb)) <;> (try (have hbe := eq_of_beq hb)))) | (refine aops_partB ?_) | (refine qops_partB ?_))
    exact Bor.aggL (.cons (.same _ (.flat _ rfl)) (.cons (.same _ (.flat _ rfl)) (.cons (.same _ (.flat _ rfl)) (.cons (.same _ (.flat _ rfl)) (.cons .nil .nil)))))
  | true =>
    rw [hf] at ht
    simp only [if_true] at ht
    simp only [Bool.not_true, Bool.false_eq_true, if_false]
    cases hc : inB id 1 l.texts.length with
    | false =>
      simp only [hc, Bool.false_eq_true, if_false] at ht
      simp only [Bool.not_false, if_true]
      clear h hc hf
      refine PCalls.of ?_; refine ACalls.enter (n := 18) (rs := [.cell 4 31]) Tryz.func6 rfl rfl rfl (by kernel_rfl) (by kernel_rfl) (by kernel_rfl) (Nat.le_of_ble_eq_true rfl) ?_
      repeat' (first | (refine ACalls.start ?_; first | (refine ACalls.ofJi (ht) rfl ?_)) | (refine qcall_start ?_; first | (refine qcallFi (ht) rfl ?_ ?_; (focus ((first | exact rfl | (simp [pureV, flatV, blockE_val, blockE_sz, blockResultE_val, blockResultE_sz, ledgerE_val, ledgerE_sz, textResultE_val, textResultE_sz]; done)))))) | (refine KV.run _ ?_) | (refine KQ.run _ ?_) | (refine KT.run _ ?_) | (refine AWp.seqH fun KC => ?_) | (refine AWp.block ?_) | (refine AWp.region ?_) | (refine mops_step0 rfl rfl fun KC => ?_) | (refine mops_step1 rfl fun KC => ?_) | (refine mops_step2 rfl fun KC => ?_) | (refine AWp.ret ?_) | (refine AWp.skip ?_) | (refine AWp.exit ?_) | (refine aops_callH rfl fun kC => ?_) | (refine qops_callH rfl fun kC => ?_) | (refine AWp.condB ?_) | (simp only [bse, wk, tys, storeH_ptr, Nat.reduceEqDiff, ↓reduceIte, reduceCtorEq, Nat.reduceAdd, Nat.reduceLeDiff, Int.reduceBEq, Int.reduceLT, Int.reduceLE, Int.reduceEq, ne_eq, not_false_eq_true, Nat.reduceMul, blockE_val, blockE_sz, blockResultE_val, blockResultE_sz, ledgerE_val, ledgerE_sz, textResultE_val, textResultE_sz, *]) | (refine condK_bool (fun hb => ?_) (fun hb => ?_) <;> ((try simp only [Bool.not_eq_true', Bool.not_eq_false'] at hb) <;> (try (have hbe := of_decide_eq_true hb)) <;> (try (have hbe := eq_of_beq hb)))) | (refine aops_partB ?_) | (refine qops_partB ?_))
      exact Bor.aggL (.cons (.same _ (.flat _ rfl)) (.cons (.same _ (.flat _ rfl)) (.cons (.same _ (.flat _ rfl)) (.cons (.same _ (.flat _ rfl)) (.cons .nil .nil)))))
    | true =>
      simp only [hc, if_true] at ht
      simp only [Bool.not_true, Bool.false_eq_true, if_false]
      have hsz := getS_size (eq_of_beq hf) hc
      have hln : (getS l.texts id).data.toList.length = (getS l.texts id).size := Array.length_toList
      have hpb := spec_ParseBlock (getS l.texts id).data.toList (by omega)
      have hrr := parR_read (getS l.texts id).data.toList (by omega)
      have hg : (⟨(if (readB (getS l.texts id).data.toList).2 then ((readB (getS l.texts id).data.toList).1, (0 : Int)) else (blk0, 5)).2, (if (readB (getS l.texts id).data.toList).2 then ((readB (getS l.texts id).data.toList).1, (0 : Int)) else (blk0, 5)).1⟩ : TBlockResult) = parR (getS l.texts id).data.toList := by
        rw [hrr]
        cases (readB (getS l.texts id).data.toList).2 <;> rfl
      rw [hg]
      rw [bs_of] at hpb
      clear hg hrr hln hsz hc hf h
      generalize parR (getS l.texts id).data.toList = R at hpb ⊢
      generalize getS l.texts id = T at ht hpb
      refine PCalls.of ?_; refine ACalls.enter (n := 18) (rs := [.cell 4 31]) Tryz.func6 rfl rfl rfl (by kernel_rfl) (by kernel_rfl) (by kernel_rfl) (Nat.le_of_ble_eq_true rfl) ?_
      repeat' (first | (refine ACalls.start ?_; first | (refine ACalls.ofJi (ht) rfl ?_) | (refine ACalls.ofJi (hpb) rfl ?_)) | (refine qcall_start ?_; first | (refine qcallFi (ht) rfl ?_ ?_; (focus ((first | exact rfl | (simp [pureV, flatV, blockE_val, blockE_sz, blockResultE_val, blockResultE_sz, ledgerE_val, ledgerE_sz, textResultE_val, textResultE_sz]; done))))) | (refine qcallFi (hpb) rfl ?_ ?_; (focus ((first | exact rfl | (simp [pureV, flatV, blockE_val, blockE_sz, blockResultE_val, blockResultE_sz, ledgerE_val, ledgerE_sz, textResultE_val, textResultE_sz]; done)))))) | (refine KV.run _ ?_) | (refine KQ.run _ ?_) | (refine KT.run _ ?_) | (refine AWp.seqH fun KC => ?_) | (refine AWp.block ?_) | (refine AWp.region ?_) | (refine mops_step0 rfl rfl fun KC => ?_) | (refine mops_step1 rfl fun KC => ?_) | (refine mops_step2 rfl fun KC => ?_) | (refine AWp.ret ?_) | (refine AWp.skip ?_) | (refine AWp.exit ?_) | (refine aops_callH rfl fun kC => ?_) | (refine qops_callH rfl fun kC => ?_) | (refine AWp.condB ?_) | (simp only [bse, wk, tys, storeH_ptr, Nat.reduceEqDiff, ↓reduceIte, reduceCtorEq, Nat.reduceAdd, Nat.reduceLeDiff, Int.reduceBEq, Int.reduceLT, Int.reduceLE, Int.reduceEq, ne_eq, not_false_eq_true, Nat.reduceMul, blockE_val, blockE_sz, blockResultE_val, blockResultE_sz, ledgerE_val, ledgerE_sz, textResultE_val, textResultE_sz, *]) | (refine condK_bool (fun hb => ?_) (fun hb => ?_) <;> ((try simp only [Bool.not_eq_true', Bool.not_eq_false'] at hb) <;> (try (have hbe := of_decide_eq_true hb)) <;> (try (have hbe := eq_of_beq hb)))) | (refine aops_partB ?_) | (refine qops_partB ?_))
      all_goals first | exact .same _ (Enc.val_im blockResultE R) | skip
end Go.BM
