/- Packed: X1, T45, T46. -/
import Derived.Test.YtegjjdhgffnkhaaGreatDoorZ3
import Derived.Test.YtegjjdhgffnkhaaGreatDoorZ6
import Derived.Test.YtegjjdhgffnkhaaGreatDoorZ7
/- Rules and their texts: both sides, as calls. -/
set_option linter.unusedVariables false
set_option linter.unusedSimpArgs false
set_option maxRecDepth 100000
set_option maxHeartbeats 4000000
namespace Go.BM
open Go.Proofs Go.RowKit
attribute [local irreducible] ACalls AWp aops qops optK optP cK gateA condK mops qcallK PCalls loadV fldV idxV lenV slV storeH binS
theorem NFun.p {P : Program} {f : FuncId} {args : List Value} {v : Value} {R : List Blk → ((Nat → Nat) → Value) → Prop} (h : NFun P f args R) (hR : ∀ bs F, R bs F → ∀ (N : AH) (ρ : Nat → Nat), (∀ i, i < bs.length → N[ρ i]? = bs[i]?) → Bor N (F ρ) v) : PCalls P f args v :=
  PCalls.of (ACalls.mono h fun d N ⟨bs, F, ρ, h1, h2, h3, _⟩ => by subst h2; exact hR bs F h1 N ρ h3)
theorem impl_readRule_p (t : List UInt8) (c : UInt8) (ht : t.length ≤ 1000000) : PCalls Tryz.prog 32 [.string (bs t), .string (bs [c])] (.tuple #[.agg #[islE intE (readR c t).1.keys, .int .i64 (readR c t).1.need, .int .i64 (readR c t).1.after], .bool (readR c t).2]) := by
  refine NFun.p (impl_readRule t c ht) ?_
  rintro _ _ (⟨h, rfl, rfl⟩ | ⟨h, v, rfl, rfl⟩) N ρ hN
  · rw [h]
    exact bor_rule0 false
  · rw [h]
    exact Bor.tupleL (.cons (Bor.aggL (.cons (Bor.sbE (E := intE) (hN 0 (by simp)) (fun _ => rfl) rfl) (.cons (.same _ (.flat _ rfl)) (.cons (.same _ (.flat _ rfl)) .nil)))) (.cons (.same _ (.flat _ rfl)) .nil))
/-- What is parsed: the code, the rule. -/
def psR (R : TRule × Bool) : Value := if R.2 then .agg #[.int .i64 0, islE intE R.1.keys, .int .i64 R.1.need, .int .i64 R.1.after] else .agg #[.int .i64 5, islE intE [], .int .i64 0, .int .i64 0]
theorem impl_ParseRule (t : List UInt8) (ht : t.length ≤ 1000000) : PCalls Tryz.prog 9 [.string (bs t)] (psR (readR 32 t)) := by
  have hr := impl_readRule_p t 32 ht
  unfold psR
  generalize readR 32 t = R at hr ⊢
  obtain ⟨⟨ks, nd, af⟩, ok⟩ := R
  dsimp only at hr ⊢
  cases ok with
  | true =>
    simp only [if_true]
    refine PCalls.of ?_; refine ACalls.enter (n := 15) (rs := [.cell 2 36]) Tryz.func9 rfl rfl rfl (by kernel_rfl) (by kernel_rfl) (by kernel_rfl) (Nat.le_of_ble_eq_true rfl) ?_
    repeat' (first | (refine ACalls.start ?_; first | (refine ACalls.ofJi (hr) rfl ?_)) | (refine qcall_start ?_; first | (refine qcallFi (hr) rfl ?_ ?_; (focus ((first | exact rfl | (simp [pureV, flatV, ruleE_val, ruleE_sz, textResultE_val, textResultE_sz]; done)))))) | (refine KV.run _ ?_) | (refine KQ.run _ ?_) | (refine KT.run _ ?_) | (refine AWp.seqH fun KC => ?_) | (refine AWp.block ?_) | (refine AWp.region ?_) | (refine mops_step0 rfl rfl fun KC => ?_) | (refine mops_step1 rfl fun KC => ?_) | (refine mops_step2 rfl fun KC => ?_) | (refine AWp.ret ?_) | (refine AWp.skip ?_) | (refine AWp.exit ?_) | (refine aops_callH rfl fun kC => ?_) | (refine qops_callH rfl fun kC => ?_) | (refine AWp.condB ?_) | (simp only [bse, wk, tys, storeH_ptr, Nat.reduceEqDiff, ↓reduceIte, reduceCtorEq, Nat.reduceAdd, Nat.reduceLeDiff, Int.reduceBEq, Int.reduceLT, Int.reduceLE, Int.reduceEq, ne_eq, not_false_eq_true, Nat.reduceMul, ruleE_val, ruleE_sz, textResultE_val, textResultE_sz, *]) | (refine condK_bool (fun hb => ?_) (fun hb => ?_) <;> ((try simp only [Bool.not_eq_true', Bool.not_eq_false'] at hb) <;> (try (have hbe := of_decide_eq_true hb)) <;> (try (have hbe := eq_of_beq hb)))) | (refine aops_partB ?_) | (refine qops_partB ?_))
    all_goals exact Bor.aggL (.cons (.same _ (.flat _ rfl)) (.cons (.same _ (islE_im _ _)) (.cons (.same _ (.flat _ rfl)) (.cons (.same _ (.flat _ rfl)) .nil))))
  | false =>
    simp only [Bool.false_eq_true, if_false]
    refine PCalls.of ?_; refine ACalls.enter (n := 15) (rs := [.cell 2 36]) Tryz.func9 rfl rfl rfl (by kernel_rfl) (by kernel_rfl) (by kernel_rfl) (Nat.le_of_ble_eq_true rfl) ?_
    repeat' (first | (refine ACalls.start ?_; first | (refine ACalls.ofJi (hr) rfl ?_)) | (refine qcall_start ?_; first | (refine qcallFi (hr) rfl ?_ ?_; (focus ((first | exact rfl | (simp [pureV, flatV, ruleE_val, ruleE_sz, textResultE_val, textResultE_sz]; done)))))) | (refine KV.run _ ?_) | (refine KQ.run _ ?_) | (refine KT.run _ ?_) | (refine AWp.seqH fun KC => ?_) | (refine AWp.block ?_) | (refine AWp.region ?_) | (refine mops_step0 rfl rfl fun KC => ?_) | (refine mops_step1 rfl fun KC => ?_) | (refine mops_step2 rfl fun KC => ?_) | (refine AWp.ret ?_) | (refine AWp.skip ?_) | (refine AWp.exit ?_) | (refine aops_callH rfl fun kC => ?_) | (refine qops_callH rfl fun kC => ?_) | (refine AWp.condB ?_) | (simp only [bse, wk, tys, storeH_ptr, Nat.reduceEqDiff, ↓reduceIte, reduceCtorEq, Nat.reduceAdd, Nat.reduceLeDiff, Int.reduceBEq, Int.reduceLT, Int.reduceLE, Int.reduceEq, ne_eq, not_false_eq_true, Nat.reduceMul, ruleE_val, ruleE_sz, textResultE_val, textResultE_sz, *]) | (refine condK_bool (fun hb => ?_) (fun hb => ?_) <;> ((try simp only [Bool.not_eq_true', Bool.not_eq_false'] at hb) <;> (try (have hbe := of_decide_eq_true hb)) <;> (try (have hbe := eq_of_beq hb)))) | (refine aops_partB ?_) | (refine qops_partB ?_))
    all_goals exact Bor.aggL (.cons (.same _ (.flat _ rfl)) (.cons .nil (.cons (.same _ (.flat _ rfl)) (.cons (.same _ (.flat _ rfl)) .nil))))
theorem spec_ParseRule (t : List UInt8) (ht : t.length ≤ 300) : PCalls Tryz.prog 11 [.string (bs t)] (psR (parR t)) := by
  have hr := spec_l2Parse t ht
  unfold psR
  generalize parR t = R at hr ⊢
  obtain ⟨⟨ks, nd, af⟩, ok⟩ := R
  simp only [ruleE_val] at hr
  dsimp only at hr ⊢
  cases ok with
  | true =>
    simp only [if_true]
    refine PCalls.of ?_; refine ACalls.enter (n := 15) (rs := [.cell 2 36]) Tryz.func11 rfl rfl rfl (by kernel_rfl) (by kernel_rfl) (by kernel_rfl) (Nat.le_of_ble_eq_true rfl) ?_
    repeat' (first | (refine ACalls.start ?_; first | (refine ACalls.ofJi (hr) rfl ?_)) | (refine qcall_start ?_; first | (refine qcallFi (hr) rfl ?_ ?_; (focus ((first | exact rfl | (simp [pureV, flatV, ruleE_val, ruleE_sz, textResultE_val, textResultE_sz]; done)))))) | (refine KV.run _ ?_) | (refine KQ.run _ ?_) | (refine KT.run _ ?_) | (refine AWp.seqH fun KC => ?_) | (refine AWp.block ?_) | (refine AWp.region ?_) | (refine mops_step0 rfl rfl fun KC => ?_) | (refine mops_step1 rfl fun KC => ?_) | (refine mops_step2 rfl fun KC => ?_) | (refine AWp.ret ?_) | (refine AWp.skip ?_) | (refine AWp.exit ?_) | (refine aops_callH rfl fun kC => ?_) | (refine qops_callH rfl fun kC => ?_) | (refine AWp.condB ?_) | (simp only [bse, wk, tys, storeH_ptr, Nat.reduceEqDiff, ↓reduceIte, reduceCtorEq, Nat.reduceAdd, Nat.reduceLeDiff, Int.reduceBEq, Int.reduceLT, Int.reduceLE, Int.reduceEq, ne_eq, not_false_eq_true, Nat.reduceMul, ruleE_val, ruleE_sz, textResultE_val, textResultE_sz, *]) | (refine condK_bool (fun hb => ?_) (fun hb => ?_) <;> ((try simp only [Bool.not_eq_true', Bool.not_eq_false'] at hb) <;> (try (have hbe := of_decide_eq_true hb)) <;> (try (have hbe := eq_of_beq hb)))) | (refine aops_partB ?_) | (refine qops_partB ?_))
    all_goals exact Bor.aggL (.cons (.same _ (.flat _ rfl)) (.cons (.same _ (islE_im _ _)) (.cons (.same _ (.flat _ rfl)) (.cons (.same _ (.flat _ rfl)) .nil))))
  | false =>
    simp only [Bool.false_eq_true, if_false]
    refine PCalls.of ?_; refine ACalls.enter (n := 15) (rs := [.cell 2 36]) Tryz.func11 rfl rfl rfl (by kernel_rfl) (by kernel_rfl) (by kernel_rfl) (Nat.le_of_ble_eq_true rfl) ?_
    repeat' (first | (refine ACalls.start ?_; first | (refine ACalls.ofJi (hr) rfl ?_)) | (refine qcall_start ?_; first | (refine qcallFi (hr) rfl ?_ ?_; (focus ((first | exact rfl | (simp [pureV, flatV, ruleE_val, ruleE_sz, textResultE_val, textResultE_sz]; done)))))) | (refine KV.run _ ?_) | (refine KQ.run _ ?_) | (refine KT.run _ ?_) | (refine AWp.seqH fun KC => ?_) | (refine AWp.block ?_) | (refine AWp.region ?_) | (refine mops_step0 rfl rfl fun KC => ?_) | (refine mops_step1 rfl fun KC => ?_) | (refine mops_step2 rfl fun KC => ?_) | (refine AWp.ret ?_) | (refine AWp.skip ?_) | (refine AWp.exit ?_) | (refine aops_callH rfl fun kC => ?_) | (refine qops_callH rfl fun kC => ?_) | (refine AWp.condB ?_) | (simp only [bse, wk, tys, storeH_ptr, Nat.reduceEqDiff, ↓reduceIte, reduceCtorEq, Nat.reduceAdd, Nat.reduceLeDiff, Int.reduceBEq, Int.reduceLT, Int.reduceLE, Int.reduceEq, ne_eq, not_false_eq_true, Nat.reduceMul, ruleE_val, ruleE_sz, textResultE_val, textResultE_sz, *]) | (refine condK_bool (fun hb => ?_) (fun hb => ?_) <;> ((try simp only [Bool.not_eq_true', Bool.not_eq_false'] at hb) <;> (try (have hbe := of_decide_eq_true hb)) <;> (try (have hbe := eq_of_beq hb)))) | (refine aops_partB ?_) | (refine qops_partB ?_))
    all_goals exact Bor.aggL (.cons (.same _ (.flat _ rfl)) (.cons .nil (.cons (.same _ (.flat _ rfl)) (.cons (.same _ (.flat _ rfl)) .nil))))
def rtF (r : TRule) : TTextResult := if ruleFault r.keys r.need r.after = 0 then ⟨0, bs (ruleT 32 r)⟩ else ⟨ruleFault r.keys r.need r.after, bs []⟩
theorem impl_RuleText (r : TRule) (h : r.keys.length ≤ 1000000) : PCalls Tryz.prog 10 [ruleE.val r] (textResultE.val (rtF r)) := by
  have hf := impl_RuleFault r (by omega)
  have ht := impl_ruleText r 32
  unfold rtF
  by_cases h0 : ruleFault r.keys r.need r.after = 0
  · have ht := ht h0
    rw [h0] at hf
    rw [if_pos h0]
    generalize ruleT 32 r = T at ht ⊢
    clear h0
    refine PCalls.val (by first | exact islE_im _ _ | exact Enc.val_im _ _ | exact Im.flat _ rfl | (repeat' (first | exact Im.nilL | refine Im.consL ?_ ?_ | exact Im.flat _ rfl | exact islE_im _ _ | exact Enc.val_im _ _ | refine Im.aggL ?_ | refine Im.tupleL ?_ | refine Im.isl ?_))) ?_; refine ACalls.enter (n := 13) (rs := [.cell 2 39]) Tryz.func10 rfl rfl rfl (by kernel_rfl) (by kernel_rfl) (by kernel_rfl) (Nat.le_of_ble_eq_true rfl) ?_
    repeat' (first | (refine ACalls.start ?_; first | (refine ACalls.ofJi (hf) rfl ?_) | (refine ACalls.ofJi (ht) rfl ?_)) | (refine qcall_start ?_; first | (refine qcallFi (hf) rfl ?_ ?_; (focus ((first | exact rfl | (simp [pureV, flatV, ruleE_val, ruleE_sz, textResultE_val, textResultE_sz]; done))))) | (refine qcallFi (ht) rfl ?_ ?_; (focus ((first | exact rfl | (simp [pureV, flatV, ruleE_val, ruleE_sz, textResultE_val, textResultE_sz]; done)))))) | (refine KV.run _ ?_) | (refine KQ.run _ ?_) | (refine KT.run _ ?_) | (refine AWp.seqH fun KC => ?_) | (refine AWp.block ?_) | (refine AWp.region ?_) | (refine mops_step0 rfl rfl fun KC => ?_) | (refine mops_step1 rfl fun KC => ?_) | (refine mops_step2 rfl fun KC => ?_) | (refine AWp.ret ?_) | (refine AWp.skip ?_) | (refine AWp.exit ?_) | (refine aops_callH rfl fun kC => ?_) | (refine qops_callH rfl fun kC => ?_) | (refine AWp.condB ?_) | (simp only [bse, wk, tys, storeH_ptr, Nat.reduceEqDiff, ↓reduceIte, reduceCtorEq, Nat.reduceAdd, Nat.reduceLeDiff, Int.reduceBEq, Int.reduceLT, Int.reduceLE, Int.reduceEq, ne_eq, not_false_eq_true, Nat.reduceMul, ruleE_val, ruleE_sz, textResultE_val, textResultE_sz, *]) | (refine condK_bool (fun hb => ?_) (fun hb => ?_) <;> ((try simp only [Bool.not_eq_true', Bool.not_eq_false'] at hb) <;> (try (have hbe := of_decide_eq_true hb)) <;> (try (have hbe := eq_of_beq hb)))) | (refine aops_partB ?_) | (refine qops_partB ?_))
  · rw [if_neg h0]
    have h0' : (ruleFault r.keys r.need r.after == 0) = false := by simpa using h0
    generalize ruleFault r.keys r.need r.after = F at hf h0' h0 ⊢
    clear ht h0
    refine PCalls.val (by first | exact islE_im _ _ | exact Enc.val_im _ _ | exact Im.flat _ rfl | (repeat' (first | exact Im.nilL | refine Im.consL ?_ ?_ | exact Im.flat _ rfl | exact islE_im _ _ | exact Enc.val_im _ _ | refine Im.aggL ?_ | refine Im.tupleL ?_ | refine Im.isl ?_))) ?_; refine ACalls.enter (n := 13) (rs := [.cell 2 39]) Tryz.func10 rfl rfl rfl (by kernel_rfl) (by kernel_rfl) (by kernel_rfl) (Nat.le_of_ble_eq_true rfl) ?_
    repeat' (first | (refine ACalls.start ?_; first | (refine ACalls.ofJi (hf) rfl ?_)) | (refine qcall_start ?_; first | (refine qcallFi (hf) rfl ?_ ?_; (focus ((first | exact rfl | (simp [pureV, flatV, ruleE_val, ruleE_sz, textResultE_val, textResultE_sz]; done)))))) | (refine KV.run _ ?_) | (refine KQ.run _ ?_) | (refine KT.run _ ?_) | (refine AWp.seqH fun KC => ?_) | (refine AWp.block ?_) | (refine AWp.region ?_) | (refine mops_step0 rfl rfl fun KC => ?_) | (refine mops_step1 rfl fun KC => ?_) | (refine mops_step2 rfl fun KC => ?_) | (refine AWp.ret ?_) | (refine AWp.skip ?_) | (refine AWp.exit ?_) | (refine aops_callH rfl fun kC => ?_) | (refine qops_callH rfl fun kC => ?_) | (refine AWp.condB ?_) | (simp only [bse, wk, tys, storeH_ptr, Nat.reduceEqDiff, ↓reduceIte, reduceCtorEq, Nat.reduceAdd, Nat.reduceLeDiff, Int.reduceBEq, Int.reduceLT, Int.reduceLE, Int.reduceEq, ne_eq, not_false_eq_true, Nat.reduceMul, ruleE_val, ruleE_sz, textResultE_val, textResultE_sz, *]) | (refine condK_bool (fun hb => ?_) (fun hb => ?_) <;> ((try simp only [Bool.not_eq_true', Bool.not_eq_false'] at hb) <;> (try (have hbe := of_decide_eq_true hb)) <;> (try (have hbe := eq_of_beq hb)))) | (refine aops_partB ?_) | (refine qops_partB ?_))
theorem spec_RuleFault (r : TRule) (h : r.keys.length ≤ 1000000) : PCalls Tryz.prog 13 [ruleE.val r] (.int .i64 (ruleFault r.keys r.need r.after)) := by
  have hf := spec_l2Fault r.keys r.need r.after (by omega)
  generalize ruleFault r.keys r.need r.after = F at hf ⊢
  refine PCalls.flat rfl ?_; refine ACalls.enter (n := 4) (rs := [.tmp 2]) Tryz.func13 rfl rfl rfl (by kernel_rfl) (by kernel_rfl) (by kernel_rfl) (Nat.le_of_ble_eq_true rfl) ?_
  repeat' (first | (refine ACalls.start ?_; first | (refine ACalls.ofP (hf) ?_ ?_ ?_; (focus ((repeat' (first | exact BorL.nil | refine BorL.cons ?_ ?_ | exact Bor.same _ (by repeat' (first | exact Im.nilL | refine Im.consL ?_ ?_ | refine Im.appL ?_ ?_ | exact Im.flat _ rfl | exact islE_im _ _ | exact Enc.val_im _ _ | assumption | refine Im.aggL ?_ | refine Im.funcL ?_ | refine Im.funcA ?_ | refine Im.isl ?_ | refine Im.ip ?_)) | exact Bor.nil | exact Bor.sb (by first | (simp only [bse, wk, tys, storeH_ptr, Nat.reduceEqDiff, ↓reduceIte, reduceCtorEq, Nat.reduceAdd, Nat.reduceLeDiff, Int.reduceBEq, Int.reduceLT, Int.reduceLE, Int.reduceEq, ne_eq, not_false_eq_true, Nat.reduceMul, ruleE_val, ruleE_sz, textResultE_val, textResultE_sz]; exact rfl) | (simp only [bse, wk, tys, storeH_ptr, Nat.reduceEqDiff, ↓reduceIte, reduceCtorEq, Nat.reduceAdd, Nat.reduceLeDiff, Int.reduceBEq, Int.reduceLT, Int.reduceLE, Int.reduceEq, ne_eq, not_false_eq_true, Nat.reduceMul, ruleE_val, ruleE_sz, textResultE_val, textResultE_sz]; done) | (simp only [bse, wk, tys, storeH_ptr, Nat.reduceEqDiff, ↓reduceIte, reduceCtorEq, Nat.reduceAdd, Nat.reduceLeDiff, Int.reduceBEq, Int.reduceLT, Int.reduceLE, Int.reduceEq, ne_eq, not_false_eq_true, Nat.reduceMul, ruleE_val, ruleE_sz, textResultE_val, textResultE_sz, *]; done)) (by first | exact fun _ => rfl | assumption | (intros; omega)) rfl | exact Bor.mks (by first | (simp only [bse, wk, tys, storeH_ptr, Nat.reduceEqDiff, ↓reduceIte, reduceCtorEq, Nat.reduceAdd, Nat.reduceLeDiff, Int.reduceBEq, Int.reduceLT, Int.reduceLE, Int.reduceEq, ne_eq, not_false_eq_true, Nat.reduceMul, ruleE_val, ruleE_sz, textResultE_val, textResultE_sz]; exact rfl) | (simp only [bse, wk, tys, storeH_ptr, Nat.reduceEqDiff, ↓reduceIte, reduceCtorEq, Nat.reduceAdd, Nat.reduceLeDiff, Int.reduceBEq, Int.reduceLT, Int.reduceLE, Int.reduceEq, ne_eq, not_false_eq_true, Nat.reduceMul, ruleE_val, ruleE_sz, textResultE_val, textResultE_sz]; done) | (simp only [bse, wk, tys, storeH_ptr, Nat.reduceEqDiff, ↓reduceIte, reduceCtorEq, Nat.reduceAdd, Nat.reduceLeDiff, Int.reduceBEq, Int.reduceLT, Int.reduceLE, Int.reduceEq, ne_eq, not_false_eq_true, Nat.reduceMul, ruleE_val, ruleE_sz, textResultE_val, textResultE_sz, *]; done)) (by first | exact fun _ => rfl | assumption | (intros; omega)) (by intros; omega) | refine Bor.ptrL (by first | (simp only [bse, wk, tys, storeH_ptr, Nat.reduceEqDiff, ↓reduceIte, reduceCtorEq, Nat.reduceAdd, Nat.reduceLeDiff, Int.reduceBEq, Int.reduceLT, Int.reduceLE, Int.reduceEq, ne_eq, not_false_eq_true, Nat.reduceMul, ruleE_val, ruleE_sz, textResultE_val, textResultE_sz]; exact rfl) | (simp only [bse, wk, tys, storeH_ptr, Nat.reduceEqDiff, ↓reduceIte, reduceCtorEq, Nat.reduceAdd, Nat.reduceLeDiff, Int.reduceBEq, Int.reduceLT, Int.reduceLE, Int.reduceEq, ne_eq, not_false_eq_true, Nat.reduceMul, ruleE_val, ruleE_sz, textResultE_val, textResultE_sz]; done) | (simp only [bse, wk, tys, storeH_ptr, Nat.reduceEqDiff, ↓reduceIte, reduceCtorEq, Nat.reduceAdd, Nat.reduceLeDiff, Int.reduceBEq, Int.reduceLT, Int.reduceLE, Int.reduceEq, ne_eq, not_false_eq_true, Nat.reduceMul, ruleE_val, ruleE_sz, textResultE_val, textResultE_sz, *]; done)) rfl rfl ⟨_, ?_, (by first | (simp only [bse, wk, tys, storeH_ptr, Nat.reduceEqDiff, ↓reduceIte, reduceCtorEq, Nat.reduceAdd, Nat.reduceLeDiff, Int.reduceBEq, Int.reduceLT, Int.reduceLE, Int.reduceEq, ne_eq, not_false_eq_true, Nat.reduceMul, ruleE_val, ruleE_sz, textResultE_val, textResultE_sz]; exact rfl) | (simp only [bse, wk, tys, storeH_ptr, Nat.reduceEqDiff, ↓reduceIte, reduceCtorEq, Nat.reduceAdd, Nat.reduceLeDiff, Int.reduceBEq, Int.reduceLT, Int.reduceLE, Int.reduceEq, ne_eq, not_false_eq_true, Nat.reduceMul, ruleE_val, ruleE_sz, textResultE_val, textResultE_sz]; done) | (simp only [bse, wk, tys, storeH_ptr, Nat.reduceEqDiff, ↓reduceIte, reduceCtorEq, Nat.reduceAdd, Nat.reduceLeDiff, Int.reduceBEq, Int.reduceLT, Int.reduceLE, Int.reduceEq, ne_eq, not_false_eq_true, Nat.reduceMul, ruleE_val, ruleE_sz, textResultE_val, textResultE_sz, *]; done))⟩ (by simp) | refine Bor.aggL ?_ | refine Bor.funcL ?_)); done)); (focus ((first | exact rfl | (simp [pureV, flatV, ruleE_val, ruleE_sz, textResultE_val, textResultE_sz]; done)))))) | (refine qcall_start ?_; first | (refine qcallP (hf) ?_ ?_ ?_; (focus ((repeat' (first | exact BorL.nil | refine BorL.cons ?_ ?_ | exact Bor.same _ (by repeat' (first | exact Im.nilL | refine Im.consL ?_ ?_ | refine Im.appL ?_ ?_ | exact Im.flat _ rfl | exact islE_im _ _ | exact Enc.val_im _ _ | assumption | refine Im.aggL ?_ | refine Im.funcL ?_ | refine Im.funcA ?_ | refine Im.isl ?_ | refine Im.ip ?_)) | exact Bor.nil | exact Bor.sb (by first | (simp only [bse, wk, tys, storeH_ptr, Nat.reduceEqDiff, ↓reduceIte, reduceCtorEq, Nat.reduceAdd, Nat.reduceLeDiff, Int.reduceBEq, Int.reduceLT, Int.reduceLE, Int.reduceEq, ne_eq, not_false_eq_true, Nat.reduceMul, ruleE_val, ruleE_sz, textResultE_val, textResultE_sz]; exact rfl) | (simp only [bse, wk, tys, storeH_ptr, Nat.reduceEqDiff, ↓reduceIte, reduceCtorEq, Nat.reduceAdd, Nat.reduceLeDiff, Int.reduceBEq, Int.reduceLT, Int.reduceLE, Int.reduceEq, ne_eq, not_false_eq_true, Nat.reduceMul, ruleE_val, ruleE_sz, textResultE_val, textResultE_sz]; done) | (simp only [bse, wk, tys, storeH_ptr, Nat.reduceEqDiff, ↓reduceIte, reduceCtorEq, Nat.reduceAdd, Nat.reduceLeDiff, Int.reduceBEq, Int.reduceLT, Int.reduceLE, Int.reduceEq, ne_eq, not_false_eq_true, Nat.reduceMul, ruleE_val, ruleE_sz, textResultE_val, textResultE_sz, *]; done)) (by first | exact fun _ => rfl | assumption | (intros; omega)) rfl | exact Bor.mks (by first | (simp only [bse, wk, tys, storeH_ptr, Nat.reduceEqDiff, ↓reduceIte, reduceCtorEq, Nat.reduceAdd, Nat.reduceLeDiff, Int.reduceBEq, Int.reduceLT, Int.reduceLE, Int.reduceEq, ne_eq, not_false_eq_true, Nat.reduceMul, ruleE_val, ruleE_sz, textResultE_val, textResultE_sz]; exact rfl) | (simp only [bse, wk, tys, storeH_ptr, Nat.reduceEqDiff, ↓reduceIte, reduceCtorEq, Nat.reduceAdd, Nat.reduceLeDiff, Int.reduceBEq, Int.reduceLT, Int.reduceLE, Int.reduceEq, ne_eq, not_false_eq_true, Nat.reduceMul, ruleE_val, ruleE_sz, textResultE_val, textResultE_sz]; done) | (simp only [bse, wk, tys, storeH_ptr, Nat.reduceEqDiff, ↓reduceIte, reduceCtorEq, Nat.reduceAdd, Nat.reduceLeDiff, Int.reduceBEq, Int.reduceLT, Int.reduceLE, Int.reduceEq, ne_eq, not_false_eq_true, Nat.reduceMul, ruleE_val, ruleE_sz, textResultE_val, textResultE_sz, *]; done)) (by first | exact fun _ => rfl | assumption | (intros; omega)) (by intros; omega) | refine Bor.ptrL (by first | (simp only [bse, wk, tys, storeH_ptr, Nat.reduceEqDiff, ↓reduceIte, reduceCtorEq, Nat.reduceAdd, Nat.reduceLeDiff, Int.reduceBEq, Int.reduceLT, Int.reduceLE, Int.reduceEq, ne_eq, not_false_eq_true, Nat.reduceMul, ruleE_val, ruleE_sz, textResultE_val, textResultE_sz]; exact rfl) | (simp only [bse, wk, tys, storeH_ptr, Nat.reduceEqDiff, ↓reduceIte, reduceCtorEq, Nat.reduceAdd, Nat.reduceLeDiff, Int.reduceBEq, Int.reduceLT, Int.reduceLE, Int.reduceEq, ne_eq, not_false_eq_true, Nat.reduceMul, ruleE_val, ruleE_sz, textResultE_val, textResultE_sz]; done) | (simp only [bse, wk, tys, storeH_ptr, Nat.reduceEqDiff, ↓reduceIte, reduceCtorEq, Nat.reduceAdd, Nat.reduceLeDiff, Int.reduceBEq, Int.reduceLT, Int.reduceLE, Int.reduceEq, ne_eq, not_false_eq_true, Nat.reduceMul, ruleE_val, ruleE_sz, textResultE_val, textResultE_sz, *]; done)) rfl rfl ⟨_, ?_, (by first | (simp only [bse, wk, tys, storeH_ptr, Nat.reduceEqDiff, ↓reduceIte, reduceCtorEq, Nat.reduceAdd, Nat.reduceLeDiff, Int.reduceBEq, Int.reduceLT, Int.reduceLE, Int.reduceEq, ne_eq, not_false_eq_true, Nat.reduceMul, ruleE_val, ruleE_sz, textResultE_val, textResultE_sz]; exact rfl) | (simp only [bse, wk, tys, storeH_ptr, Nat.reduceEqDiff, ↓reduceIte, reduceCtorEq, Nat.reduceAdd, Nat.reduceLeDiff, Int.reduceBEq, Int.reduceLT, Int.reduceLE, Int.reduceEq, ne_eq, not_false_eq_true, Nat.reduceMul, ruleE_val, ruleE_sz, textResultE_val, textResultE_sz]; done) | (simp only [bse, wk, tys, storeH_ptr, Nat.reduceEqDiff, ↓reduceIte, reduceCtorEq, Nat.reduceAdd, Nat.reduceLeDiff, Int.reduceBEq, Int.reduceLT, Int.reduceLE, Int.reduceEq, ne_eq, not_false_eq_true, Nat.reduceMul, ruleE_val, ruleE_sz, textResultE_val, textResultE_sz, *]; done))⟩ (by simp) | refine Bor.aggL ?_ | refine Bor.funcL ?_)); done)); (focus ((first | exact rfl | (simp [pureV, flatV, ruleE_val, ruleE_sz, textResultE_val, textResultE_sz]; done)))))) | (refine KV.run _ ?_) | (refine KQ.run _ ?_) | (refine KT.run _ ?_) | (refine AWp.seqH fun KC => ?_) | (refine AWp.block ?_) | (refine AWp.region ?_) | (refine mops_step0 rfl rfl fun KC => ?_) | (refine mops_step1 rfl fun KC => ?_) | (refine mops_step2 rfl fun KC => ?_) | (refine AWp.ret ?_) | (refine AWp.skip ?_) | (refine AWp.exit ?_) | (refine aops_callH rfl fun kC => ?_) | (refine qops_callH rfl fun kC => ?_) | (refine AWp.condB ?_) | (simp only [bse, wk, tys, storeH_ptr, Nat.reduceEqDiff, ↓reduceIte, reduceCtorEq, Nat.reduceAdd, Nat.reduceLeDiff, Int.reduceBEq, Int.reduceLT, Int.reduceLE, Int.reduceEq, ne_eq, not_false_eq_true, Nat.reduceMul, ruleE_val, ruleE_sz, textResultE_val, textResultE_sz, *]) | (refine condK_bool (fun hb => ?_) (fun hb => ?_) <;> ((try simp only [Bool.not_eq_true', Bool.not_eq_false'] at hb) <;> (try (have hbe := of_decide_eq_true hb)) <;> (try (have hbe := eq_of_beq hb)))) | (refine aops_partB ?_) | (refine qops_partB ?_))
theorem lib_EqualSame (xs : List Int) (hn : xs.length ≤ 1000000) : PCalls Tryz.prog 38 [islE intE xs, islE intE xs] (.bool true) := by
  refine PCalls.flat rfl ?_; refine ACalls.enter (n := 26) (rs := [.tmp 4]) Tryz.func38 rfl rfl rfl (by kernel_rfl) (by kernel_rfl) (by kernel_rfl) (Nat.le_of_ble_eq_true rfl) ?_
  repeat' (first | (refine AWp.quiet (id := 6) (by kernel_rfl) (by kernel_rfl) ?_) | (refine KV.run _ ?_) | (refine KQ.run _ ?_) | (refine KT.run _ ?_) | (refine AWp.seqH fun KC => ?_) | (refine AWp.block ?_) | (refine AWp.region ?_) | (refine mops_step0 rfl rfl fun KC => ?_) | (refine mops_step1 rfl fun KC => ?_) | (refine mops_step2 rfl fun KC => ?_) | (refine AWp.ret ?_) | (refine AWp.skip ?_) | (refine AWp.exit ?_) | (refine aops_callH rfl fun kC => ?_) | (refine qops_callH rfl fun kC => ?_) | (refine AWp.condB ?_) | (simp only [bse, wk, tys, storeH_ptr, Nat.reduceEqDiff, ↓reduceIte, reduceCtorEq, Nat.reduceAdd, Nat.reduceLeDiff, Int.reduceBEq, Int.reduceLT, Int.reduceLE, Int.reduceEq, ne_eq, not_false_eq_true, Nat.reduceMul, ruleE_val, ruleE_sz, textResultE_val, textResultE_sz, *]) | (refine condK_bool (fun hb => ?_) (fun hb => ?_) <;> ((try simp only [Bool.not_eq_true', Bool.not_eq_false'] at hb) <;> (try (have hbe := of_decide_eq_true hb)) <;> (try (have hbe := eq_of_beq hb)))) | (refine aops_partB ?_) | (refine qops_partB ?_))
  refine AWp.loopH [14, 15, 5, 16, 17, 18, 19, 20, 21, 22, 23, 24, 4, 25, 13] (fun m e' H' => ∃ (k : Nat) (G : AH), k ≤ xs.length ∧ m = xs.length - k ∧ e' 13 = .int .i64 k ∧ H' = G) xs.length ⟨0, _, by omega, by omega, rfl, rfl⟩ ?_
  rintro m e' H' hA ⟨k, G, hk, rfl, hix, rfl⟩ hJ
  have a0 := hA 0 rfl; have a1 := hA 1 rfl; have a12 := hA 12 rfl; try simp only [bse, wk, tys, storeH_ptr, Nat.reduceEqDiff, ↓reduceIte, reduceCtorEq, Nat.reduceAdd, Nat.reduceLeDiff, Int.reduceBEq, Int.reduceLT, Int.reduceLE, Int.reduceEq, ne_eq, not_false_eq_true, Nat.reduceMul] at a0 a1 a12; clear hA
  by_cases hlt : k < xs.length
  · have hlt' : (k : Int) < (xs.length : Int) := by omega
    have hw := wr_succ (k := k) (by omega)
    repeat' (first | (refine AWp.quiet (id := 6) (by kernel_rfl) (by kernel_rfl) ?_) | (refine KV.run _ ?_) | (refine KQ.run _ ?_) | (refine KT.run _ ?_) | (refine AWp.seqH fun KC => ?_) | (refine AWp.block ?_) | (refine AWp.region ?_) | (refine mops_step0 rfl rfl fun KC => ?_) | (refine mops_step1 rfl fun KC => ?_) | (refine mops_step2 rfl fun KC => ?_) | (refine AWp.ret ?_) | (refine AWp.skip ?_) | (refine AWp.exit ?_) | (refine aops_callH rfl fun kC => ?_) | (refine qops_callH rfl fun kC => ?_) | (refine AWp.condB ?_) | (simp only [bse, wk, tys, storeH_ptr, Nat.reduceEqDiff, ↓reduceIte, reduceCtorEq, Nat.reduceAdd, Nat.reduceLeDiff, Int.reduceBEq, Int.reduceLT, Int.reduceLE, Int.reduceEq, ne_eq, not_false_eq_true, Nat.reduceMul, ruleE_val, ruleE_sz, textResultE_val, textResultE_sz, *]) | (refine condK_bool (fun hb => ?_) (fun hb => ?_) <;> ((try simp only [Bool.not_eq_true', Bool.not_eq_false'] at hb) <;> (try (have hbe := of_decide_eq_true hb)) <;> (try (have hbe := eq_of_beq hb)))) | (refine aops_partB ?_) | (refine qops_partB ?_))
    all_goals exact hJ.out _ _ ⟨xs.length - (k + 1), by omega, k + 1, _, by omega, rfl, rfl, rfl⟩ (by repeat (first | exact Agree.refl _ _ | assumption | refine Agree.put ?_ rfl _))
  · have hlt' : ¬ (k : Int) < (xs.length : Int) := by omega
    repeat' (first | (refine AWp.quiet (id := 6) (by kernel_rfl) (by kernel_rfl) ?_) | (refine KV.run _ ?_) | (refine KQ.run _ ?_) | (refine KT.run _ ?_) | (refine AWp.seqH fun KC => ?_) | (refine AWp.block ?_) | (refine AWp.region ?_) | (refine mops_step0 rfl rfl fun KC => ?_) | (refine mops_step1 rfl fun KC => ?_) | (refine mops_step2 rfl fun KC => ?_) | (refine AWp.ret ?_) | (refine AWp.skip ?_) | (refine AWp.exit ?_) | (refine aops_callH rfl fun kC => ?_) | (refine qops_callH rfl fun kC => ?_) | (refine AWp.condB ?_) | (simp only [bse, wk, tys, storeH_ptr, Nat.reduceEqDiff, ↓reduceIte, reduceCtorEq, Nat.reduceAdd, Nat.reduceLeDiff, Int.reduceBEq, Int.reduceLT, Int.reduceLE, Int.reduceEq, ne_eq, not_false_eq_true, Nat.reduceMul, ruleE_val, ruleE_sz, textResultE_val, textResultE_sz, *]) | (refine condK_bool (fun hb => ?_) (fun hb => ?_) <;> ((try simp only [Bool.not_eq_true', Bool.not_eq_false'] at hb) <;> (try (have hbe := of_decide_eq_true hb)) <;> (try (have hbe := eq_of_beq hb)))) | (refine aops_partB ?_) | (refine qops_partB ?_))
theorem impl_SameSelf (r : TRule) (h : r.keys.length ≤ 1000000) : PCalls Tryz.prog 14 [ruleE.val r, ruleE.val r] (.bool true) := by
  have he := lib_EqualSame r.keys h
  refine PCalls.flat rfl ?_; refine ACalls.enter (n := 24) (rs := [.tmp 4]) Tryz.func14 rfl rfl rfl (by kernel_rfl) (by kernel_rfl) (by kernel_rfl) (Nat.le_of_ble_eq_true rfl) ?_
  repeat' (first | (refine ACalls.start ?_; first | (refine ACalls.ofJi (he) rfl ?_)) | (refine qcall_start ?_; first | (refine qcallFi (he) rfl ?_ ?_; (focus ((first | exact rfl | (simp [pureV, flatV, ruleE_val, ruleE_sz, textResultE_val, textResultE_sz]; done)))))) | (refine KV.run _ ?_) | (refine KQ.run _ ?_) | (refine KT.run _ ?_) | (refine AWp.seqH fun KC => ?_) | (refine AWp.block ?_) | (refine AWp.region ?_) | (refine mops_step0 rfl rfl fun KC => ?_) | (refine mops_step1 rfl fun KC => ?_) | (refine mops_step2 rfl fun KC => ?_) | (refine AWp.ret ?_) | (refine AWp.skip ?_) | (refine AWp.exit ?_) | (refine aops_callH rfl fun kC => ?_) | (refine qops_callH rfl fun kC => ?_) | (refine AWp.condB ?_) | (simp only [bse, wk, tys, storeH_ptr, Nat.reduceEqDiff, ↓reduceIte, reduceCtorEq, Nat.reduceAdd, Nat.reduceLeDiff, Int.reduceBEq, Int.reduceLT, Int.reduceLE, Int.reduceEq, ne_eq, not_false_eq_true, Nat.reduceMul, ruleE_val, ruleE_sz, textResultE_val, textResultE_sz, *]) | (refine condK_bool (fun hb => ?_) (fun hb => ?_) <;> ((try simp only [Bool.not_eq_true', Bool.not_eq_false'] at hb) <;> (try (have hbe := of_decide_eq_true hb)) <;> (try (have hbe := eq_of_beq hb)))) | (refine aops_partB ?_) | (refine qops_partB ?_))
/-- What the reference reads is a rule's text. -/
theorem parR_inv {t : List UInt8} (h : (parR t).2 = true) : ruleFault (parR t).1.keys (parR t).1.need (parR t).1.after = 0 ∧ ruleT 32 (parR t).1 = t := by
  refine ⟨parR_ok h, ?_⟩
  have hj := join_cut 32 t
  have dg : ∀ {n : Nat} {w : List UInt8}, n ≤ 3 → (numD n w).2 = true → Lib.itoa (numD n w).1 = w := fun {n w} hn hd => by
    obtain ⟨u, e1, e2, e3⟩ := numD_ok hn hd
    rw [e1, itoa_nat (by omega)]
    conv => rhs; rw [e2]
    simp
  have kd : ∀ {w : List UInt8}, keysOk w = true → joinI 44 (keysD w) = w := fun {w} hk => by
    unfold keysOk at hk
    unfold joinI keysD
    rw [List.map_map]
    have : (cutL 44 w).map (Lib.itoa ∘ fun w => (numD 3 w).1) = cutL 44 w := by
      conv => rhs; rw [← List.map_id (cutL 44 w)]
      exact List.map_congr_left fun x hx => dg (by omega) (List.all_eq_true.1 hk x hx)
    rw [this]
    exact join_cut 44 w
  unfold parR at h ⊢
  split at h
  · rename_i w0 w1 w2 hw
    by_cases h1 : w1 = [111, 102]
    · rw [if_pos h1] at h ⊢
      simp only [Bool.and_eq_true] at h
      obtain ⟨⟨g1, g2⟩, _⟩ := h
      rw [hw, h1] at hj
      unfold ruleT
      dsimp only
      rw [dg (by omega) g1, kd g2, if_pos rfl, ← hj]
      rw [Lib.join_cons]
      unfold Lib.joinTail
      simp
    · rw [if_neg h1] at h; cases h
  · rename_i w0 w1 w2 w3 w4 hw
    by_cases h1 : w1 = [111, 102]
    · rw [if_pos h1] at h ⊢
      simp only [Bool.and_eq_true, decide_eq_true_eq, beq_iff_eq] at h
      obtain ⟨⟨⟨g1, g2⟩, ⟨g3, g4⟩, g5⟩, _⟩ := h
      rw [hw, h1, g4] at hj
      unfold ruleT
      dsimp only
      rw [dg (by omega) g1, kd g2, if_neg (by omega), dg (by omega) g3, ← hj]
      rw [Lib.join_cons]
      unfold Lib.joinTail
      simp
    · rw [if_neg h1] at h; cases h
  · cases h
theorem readR_inv {t : List UInt8} (h : (readR 32 t).2 = true) : ruleT 32 (readR 32 t).1 = t := by
  have key : ∀ r, (chkR 32 t r).2 = true → ruleT 32 (chkR 32 t r).1 = t := fun r h => by
    unfold chkR at h ⊢
    by_cases hc : ruleFault r.keys r.need r.after = 0 ∧ ruleT 32 r = t
    · rw [if_pos hc]; exact hc.2
    · rw [if_neg hc] at h; cases h
  unfold readR at h ⊢
  by_cases h3 : 300 < t.length
  · rw [if_pos h3] at h; cases h
  · rw [if_neg h3] at h ⊢
    split at h
    · exact key _ h
    · exact key _ h
    · cases h
theorem par_readR (t : List UInt8) : (parR t).2 = (readR 32 t).2 := by
  cases hp : (parR t).2 with
  | true =>
    obtain ⟨h1, h2⟩ := parR_inv hp
    have := readR_text 32 (.inl rfl) _ h1
    rw [h2] at this
    rw [this]
  | false =>
    cases hr : (readR 32 t).2 with
    | false => rfl
    | true =>
      have h1 := readR_ok hr
      have h2 := readR_inv hr
      have := parR_text _ h1
      rw [h2] at this
      rw [this] at hp
      cases hp
end Go.BM
/- Draws of ledgers. -/
set_option linter.unusedVariables false
set_option linter.unusedSimpArgs false
set_option maxRecDepth 100000
set_option maxHeartbeats 4000000
namespace Go.BM
open Go.Proofs Go.RowKit
attribute [local irreducible] ACalls AWp aops qops optK optP cK gateA condK mops qcallK PCalls loadV fldV idxV lenV slV storeH binS
/-- A drawn ledger's slices: both nil, or two blocks behind three boxes. -/
def LdQ (tv sv : Value) (l : TLedger) (G : AH) : Prop := (tv = .slice none 0 0 ∧ sv = .slice none 0 0 ∧ l = ⟨[], []⟩) ∨
  ∃ q q' v1 v2, q ≠ q' ∧ tv = .slice (some ⟨q + 3, 0, none⟩) l.texts.length v1 ∧ G[q]? = some ⟨9, 1, strE.flat l.texts, v1, true⟩ ∧ sv = .slice (some ⟨q' + 3, 0, none⟩) l.signs.length v2 ∧ G[q']? = some ⟨72, 2, signE.flat l.signs, v2, true⟩
theorem LdQ.one {tv sv : Value} {l : TLedger} {G : AH} (h : LdQ tv sv l G) : tv.oneCell' = true ∧ sv.oneCell' = true := by
  rcases h with ⟨rfl, rfl, _⟩ | ⟨q, q', v1, v2, _, rfl, _, rfl, _⟩ <;> exact ⟨rfl, rfl⟩
theorem LdQ.cells {tv sv : Value} {l : TLedger} {G : AH} (h : LdQ tv sv l G) : cellsV tv = [tv] ∧ cellsV sv = [sv] := by
  rcases h with ⟨rfl, rfl, _⟩ | ⟨q, q', v1, v2, _, rfl, _, rfl, _⟩ <;> exact ⟨rfl, rfl⟩
theorem LdQ.grow {tv sv : Value} {l : TLedger} {G : AH} (h : LdQ tv sv l G) (L : AH) : LdQ tv sv l (G ++ L) := by
  rcases h with h | ⟨q, q', v1, v2, h0, h1, h2, h3, h4⟩
  · exact .inl h
  · exact .inr ⟨q, q', v1, v2, h0, h1, get_old h2, h3, get_old h4⟩
theorem LdQ.bor {tv sv : Value} {l : TLedger} {G : AH} (h : LdQ tv sv l G) (b0 b1 b2 : Blk) (L : AH) : Bor (b0 :: b1 :: b2 :: (G ++ L)) (.agg #[tv, sv]) (ledgerE.val l) := by
  rw [ledgerE_val]
  rcases h with ⟨rfl, rfl, rfl⟩ | ⟨q, q', v1, v2, _, rfl, h1, rfl, h2⟩
  · exact Bor.aggL (xs := [_, _]) (ys := [_, _]) (.cons Bor.nil (.cons Bor.nil .nil))
  · exact Bor.aggL (xs := [_, _]) (ys := [_, _]) (.cons (Bor.sbE (E := strE) (r := q + 3) (get_old h1) (fun _ => rfl) rfl) (.cons (Bor.sbE (E := signE) (r := q' + 3) (get_old h2) (fun _ => rfl) rfl) .nil))
/-- What a call on a drawn ledger hands back. -/
def LdO (d : Value) (H' : AH) (b0 b1 b2 : Blk) (G : AH) : Prop := ∃ (c i : Int) (tv sv : Value) (l : TLedger) (L : AH), d = .agg #[.int .i64 c, .int .i64 i, tv, sv] ∧ H' = b0 :: b1 :: b2 :: (G ++ L) ∧ LdQ tv sv l (G ++ L) ∧ nLedger l ≤ 30000 ∧ tv.oneCell' = true ∧ sv.oneCell' = true ∧ cellsV tv = [tv] ∧ cellsV sv = [sv]
theorem dLedR_out {b0 b1 b2 : Blk} {G bs : AH} {F : (Nat → Nat) → Value} {d : Value} {H' : AH} (h : dLedR bs F) (hd : d = F fun i => (b0 :: b1 :: b2 :: G).length + i) (hH : H' = b0 :: b1 :: b2 :: G ++ bs) : LdO d H' b0 b1 b2 G := by
  subst hd hH
  rcases h with ⟨c, i, rfl, rfl⟩ | ⟨l, v1, v2, c, i, hl, rfl, rfl⟩
  · exact ⟨c, i, _, _, ⟨[], []⟩, [], rfl, by simp, .inl ⟨rfl, rfl, rfl⟩, by simp [nLedger, nStrS], rfl, rfl, rfl, rfl⟩
  · refine ⟨c, i, _, _, l, [⟨9, 1, strE.flat l.texts, v1, true⟩, ⟨72, 2, signE.flat l.signs, v2, true⟩], rfl, by simp, .inr ⟨G.length, G.length + 1, v1, v2, by omega, rfl, by simp, rfl, by simp⟩, hl, rfl, rfl, rfl, rfl⟩
theorem note_use {tv sv : Value} {l : TLedger} {G : AH} (h : LdQ tv sv l G) (hl : nLedger l ≤ 30000) (b0 b1 b2 : Blk) (w : ByteArray) :
    ACalls Tryz.prog (b0 :: b1 :: b2 :: G).length 63 [.agg #[tv, sv], .string w] (b0 :: b1 :: b2 :: G) fun d H' => LdO d H' b0 b1 b2 G :=
  ((spec_NoteTextF l w (by omega)).use (H := b0 :: b1 :: b2 :: G) dLedR_sh (.cons (by simpa using h.bor b0 b1 b2 []) (.cons (.same _ (.flat _ rfl)) .nil))).mono fun d H' ⟨bs, F, h1, h2, h3⟩ => dLedR_out h1 h2 h3
theorem sign_useL {tv sv : Value} {l : TLedger} {G : AH} (h : LdQ tv sv l G) (hl : nLedger l ≤ 30000) (b0 b1 b2 : Blk) (L : AH) (k i : Int) :
    ACalls Tryz.prog (b0 :: b1 :: b2 :: (G ++ L)).length 65 [.agg #[tv, sv], .int .i64 k, .int .i64 i] (b0 :: b1 :: b2 :: (G ++ L)) fun d H' => ∃ bs F, dLedR bs F ∧ d = F (fun i => (b0 :: b1 :: b2 :: (G ++ L)).length + i) ∧ H' = b0 :: b1 :: b2 :: (G ++ L) ++ bs :=
  (spec_SignIdF l k i (by omega)).use (H := b0 :: b1 :: b2 :: (G ++ L)) dLedR_sh (.cons (h.bor b0 b1 b2 L) (.cons (.same _ (.flat _ rfl)) (.cons (.same _ (.flat _ rfl)) .nil)))
theorem sign_use0 {tv sv : Value} {l : TLedger} {G : AH} (h : LdQ tv sv l G) (hl : nLedger l ≤ 30000) (b0 b1 b2 : Blk) (k i : Int) :
    ACalls Tryz.prog (b0 :: b1 :: b2 :: G).length 65 [.agg #[tv, sv], .int .i64 k, .int .i64 i] (b0 :: b1 :: b2 :: G) fun d H' => ∃ bs F, dLedR bs F ∧ d = F (fun i => (b0 :: b1 :: b2 :: G).length + i) ∧ H' = b0 :: b1 :: b2 :: (G ++ bs) := by
  have := sign_useL h hl b0 b1 b2 [] k i
  simpa using this
theorem one0 (G : AH) (x : Blk) : (G ++ [x])[G.length]? = some x := by simp
theorem three0 (G : AH) (x y z : Blk) : (G ++ [x, y, z])[G.length]? = some x := by simp
theorem three1 (G : AH) (x y z : Blk) : (G ++ [x, y, z])[G.length + 1]? = some y := by simp
theorem three2 (G : AH) (x y z : Blk) : (G ++ [x, y, z])[G.length + 2]? = some z := by
  rw [List.getElem?_append_right (by omega)]
  simp
/-- A ledger that is drawn: none, or two blocks. -/
def dLed (n : Nat) (bs : List Blk) (F : (Nat → Nat) → Value) : Prop := (bs = [] ∧ F = fun _ => .agg #[.slice none 0 0, .slice none 0 0]) ∨
  ∃ (l : TLedger) (v1 v2 : Nat), nLedger l ≤ n ∧ bs = [⟨9, 1, strE.flat l.texts, v1, true⟩, ⟨72, 2, signE.flat l.signs, v2, true⟩] ∧ F = fun ρ => .agg #[.slice (some ⟨ρ 0, 0, none⟩) l.texts.length v1, .slice (some ⟨ρ 1, 0, none⟩) l.signs.length v2]
theorem dLed_sh {n : Nat} : ∀ bs F, dLed n bs F → Shp bs F := by
  rintro _ _ (⟨rfl, rfl⟩ | ⟨l, v1, v2, _, rfl, rfl⟩)
  · exact Shp.none fun N ρ k => LifL.aggL (.cons .nil (.cons .nil .nil))
  · exact Shp.two (strE_flat _) (signE_flat _) fun N ρ k => LifL.aggL (.cons (.slice 0 0 none _ _ (by decide)) (.cons (.slice 1 0 none _ _ (by decide)) .nil))
theorem spec_l1RightF : DFun Tryz.prog 74 40 42 [] (dLed 30000) := by
  intro code a hcl h0 h1
  unfold ptr0
  refine ACalls.enter (n := 39) (rs := [.cell 2 27]) Tryz.func42 rfl rfl rfl (by kernel_rfl) (by kernel_rfl) (by kernel_rfl) (Nat.le_of_ble_eq_true rfl) ?_
  repeat' (first | (refine ACalls.start ?_; first | (refine ACalls.get ((spec_l1NextN _ (by decide)).val rfl (Nat.zero_le _) (by repeat' (first | exact Im.nilL | refine Im.consL ?_ ?_ | refine Im.appL ?_ ?_ | exact Im.flat _ rfl | exact islE_im _ _ | exact Enc.val_im _ _ | assumption | refine Im.aggL ?_ | refine Im.funcL ?_ | refine Im.funcA ?_ | refine Im.isl ?_ | refine Im.ip ?_)) hcl (by omega) (by omega)) (by first | exact Nat.le_refl _ | exact Nat.zero_le _ | (simp only [List.length_append, List.length_cons, List.length_nil]; omega) | (simp only [List.length_set]; omega) | omega) (by first | exact Nat.le_refl _ | exact Nat.zero_le _ | (simp only [List.length_append, List.length_cons, List.length_nil]; omega) | (simp only [List.length_set]; omega) | omega) ?_; rintro _ _ ⟨a1, ⟨k, rfl, hk⟩, _, ha1, ha2, rfl⟩)) | (refine KV.run _ ?_) | (refine KT.run _ ?_) | (refine AWp.seqH fun KC => ?_) | (refine AWp.block ?_) | (refine AWp.region ?_) | (refine aops_callH rfl fun kC => ?_) | (simp only [bse, wk, tys, storeH_ptr, Nat.reduceEqDiff, ↓reduceIte, reduceCtorEq, Nat.reduceAdd, Nat.reduceLeDiff, Int.reduceBEq, Int.reduceLT, Int.reduceLE, Int.reduceEq, ne_eq, not_false_eq_true, Nat.reduceMul, srcB_eq, Int.reduceToNat, Int.cast_ofNat_Int, signE_val, signE_sz, strE_sz, ledgerE_val, ledgerE_sz, ledgerResultE_val, *]))
  have hk := hk (by decide)
  refine AWp.loopH [10, 11, 14, 15, 16, 17, 18, 12, 13, 4] (fun m e' H' => ∃ (u : Int) (tv sv : Value) (l : TLedger) (G : AH), e' 4 = .int .i64 m ∧ LdQ tv sv l G ∧ nLedger l ≤ 30000 ∧ m ≤ k ∧ a1 ≤ u ∧ u + m ≤ a1 + k ∧ H' = srcB 74 code u :: ⟨27, 0, [.slice none 0 0, .slice none 0 0], 0, true⟩ :: ⟨27, 0, [tv, sv], 0, true⟩ :: G) k ⟨a1, _, _, ⟨[], []⟩, [], rfl, .inl ⟨rfl, rfl, rfl⟩, by simp [nLedger, nStrS], by omega, by omega, by omega, rfl⟩ ?_
  rintro m e' H' hA ⟨u, tv, sv, l, G, e4, hld, hl, hmk, hu1, hu2, rfl⟩ hJ
  have a0 := hA 0 rfl; have a2 := hA 2 rfl; have a3 := hA 3 rfl; try simp only [bse, wk, tys, storeH_ptr, Nat.reduceEqDiff, ↓reduceIte, reduceCtorEq, Nat.reduceAdd, Nat.reduceLeDiff, Int.reduceBEq, Int.reduceLT, Int.reduceLE, Int.reduceEq, ne_eq, not_false_eq_true, Nat.reduceMul] at a0 a2 a3; clear hA
  obtain ⟨ho1, ho2⟩ := hld.one
  obtain ⟨hc1, hc2⟩ := hld.cells
  by_cases hlt : 0 < m
  · have hlt' : (0 : Int) < (m : Int) := by omega
    have hw : IntKind.i64.wrap ((m : Int) - 1) = ((m - 1 : Nat) : Int) := by rw [wr] <;> omega
    repeat' (first | (refine AWp.mixedT (id := 5) (.cons 1 0 (.alt 0 1 (.cons 2 2 (.cons 3 1 (.cons 4 0 (.cons 5 2 .nil)))) (.cons 2 2 (.cons 0 0 (.cons 3 1 (.cons 4 0 (.cons 5 2 .nil))))))) (by kernel_rfl) (by kernel_rfl) ?_) | (refine mopsT_step0 rfl rfl fun KC => ?_) | (refine mopsT_step1 rfl fun KC => ?_) | (refine mopsT_step2 rfl fun KC => ?_) | (refine mopsT_alt1 rfl (fun KC => ?_) ?_) | (refine ACalls.start ?_; first | (refine ACalls.get ((spec_l1Word).val rfl (Nat.zero_le _) (by repeat' (first | exact Im.nilL | refine Im.consL ?_ ?_ | refine Im.appL ?_ ?_ | exact Im.flat _ rfl | exact islE_im _ _ | exact Enc.val_im _ _ | assumption | refine Im.aggL ?_ | refine Im.funcL ?_ | refine Im.funcA ?_ | refine Im.isl ?_ | refine Im.ip ?_)) hcl (by omega) (by omega)) (by first | exact Nat.le_refl _ | exact Nat.zero_le _ | (simp only [List.length_append, List.length_cons, List.length_nil]; omega) | (simp only [List.length_set]; omega) | omega) (by first | exact Nat.le_refl _ | exact Nat.zero_le _ | (simp only [List.length_append, List.length_cons, List.length_nil]; omega) | (simp only [List.length_set]; omega) | omega) ?_; rintro _ _ ⟨u2, ⟨w, rfl, hw1, hw2⟩, _, hu3, hu4, rfl⟩) | (refine ACalls.get (note_use hld hl _ _ _ _) (by first | exact Nat.le_refl _ | exact Nat.zero_le _ | (simp only [List.length_append, List.length_cons, List.length_nil]; omega) | (simp only [List.length_set]; omega) | omega) (by first | exact Nat.le_refl _ | exact Nat.zero_le _ | (simp only [List.length_append, List.length_cons, List.length_nil]; omega) | (simp only [List.length_set]; omega) | omega) ?_; rintro _ _ ⟨c, i, tv', sv', l', L, rfl, rfl, hld', hl', hq1, hq2, hr1, hr2⟩)) | (refine KV.run _ ?_) | (refine KT.run _ ?_) | (refine AWp.seqH fun KC => ?_) | (refine AWp.block ?_) | (refine AWp.region ?_) | (refine AWp.skip ?_) | (refine aops_callH rfl fun kC => ?_) | (refine AWp.condB ?_) | (simp only [bse, wk, tys, storeH_ptr, Nat.reduceEqDiff, ↓reduceIte, reduceCtorEq, Nat.reduceAdd, Nat.reduceLeDiff, Int.reduceBEq, Int.reduceLT, Int.reduceLE, Int.reduceEq, ne_eq, not_false_eq_true, Nat.reduceMul, srcB_eq, Int.reduceToNat, Int.cast_ofNat_Int, signE_val, signE_sz, strE_sz, ledgerE_val, ledgerE_sz, ledgerResultE_val, *]))
    all_goals exact hJ.out _ _ ⟨m - 1, by omega, u2, tv', sv', l', _, rfl, hld', hl', by omega, by omega, by omega, rfl⟩ (by repeat (first | exact Agree.refl _ _ | assumption | refine Agree.put ?_ rfl _))
  have hlt' : ¬ (0 : Int) < (m : Int) := by omega
  have hm0 : m = 0 := by omega
  clear hlt
  subst hm0
  repeat' (first | (refine ACalls.start ?_; first | (refine ACalls.get ((spec_l1NextN _ (by decide)).val rfl (Nat.zero_le _) (by repeat' (first | exact Im.nilL | refine Im.consL ?_ ?_ | refine Im.appL ?_ ?_ | exact Im.flat _ rfl | exact islE_im _ _ | exact Enc.val_im _ _ | assumption | refine Im.aggL ?_ | refine Im.funcL ?_ | refine Im.funcA ?_ | refine Im.isl ?_ | refine Im.ip ?_)) hcl (by omega) (by omega)) (by first | exact Nat.le_refl _ | exact Nat.zero_le _ | (simp only [List.length_append, List.length_cons, List.length_nil]; omega) | (simp only [List.length_set]; omega) | omega) (by first | exact Nat.le_refl _ | exact Nat.zero_le _ | (simp only [List.length_append, List.length_cons, List.length_nil]; omega) | (simp only [List.length_set]; omega) | omega) ?_; rintro _ _ ⟨a3, ⟨k3, rfl, hk3⟩, _, ha3, ha4, rfl⟩)) | (refine KV.run _ ?_) | (refine KT.run _ ?_) | (refine AWp.seqH fun KC => ?_) | (refine AWp.block ?_) | (refine AWp.region ?_) | (refine AWp.exit ?_) | (refine aops_callH rfl fun kC => ?_) | (refine AWp.condB ?_) | (simp only [bse, wk, tys, storeH_ptr, Nat.reduceEqDiff, ↓reduceIte, reduceCtorEq, Nat.reduceAdd, Nat.reduceLeDiff, Int.reduceBEq, Int.reduceLT, Int.reduceLE, Int.reduceEq, ne_eq, not_false_eq_true, Nat.reduceMul, srcB_eq, Int.reduceToNat, Int.cast_ofNat_Int, signE_val, signE_sz, strE_sz, ledgerE_val, ledgerE_sz, ledgerResultE_val, *]))
  have hk3 := hk3 (by decide)
  refine AWp.loopH [21, 22, 25, 26, 27, 28, 29, 30, 31, 32, 6, 33, 34, 35, 36, 37, 23, 24, 5] (fun m e' H' => ∃ (u : Int) (tv sv : Value) (l : TLedger) (G : AH), e' 5 = .int .i64 m ∧ LdQ tv sv l G ∧ nLedger l ≤ 30000 ∧ m ≤ k3 ∧ a3 ≤ u ∧ u + 2 * m ≤ a3 + 2 * k3 ∧ H' = srcB 74 code u :: ⟨27, 0, [.slice none 0 0, .slice none 0 0], 0, true⟩ :: ⟨27, 0, [tv, sv], 0, true⟩ :: G) k3 ⟨a3, tv, sv, l, G, rfl, hld, hl, by omega, by omega, by omega, rfl⟩ ?_
  rintro m e' H' hA ⟨u, tv, sv, l, G, e5, hld, hl, hmk, hu1, hu2, rfl⟩ hJ
  have a0 := hA 0 rfl; have a2 := hA 2 rfl; have a3 := hA 3 rfl; try simp only [bse, wk, tys, storeH_ptr, Nat.reduceEqDiff, ↓reduceIte, reduceCtorEq, Nat.reduceAdd, Nat.reduceLeDiff, Int.reduceBEq, Int.reduceLT, Int.reduceLE, Int.reduceEq, ne_eq, not_false_eq_true, Nat.reduceMul] at a0 a2 a3; clear hA
  obtain ⟨ho1, ho2⟩ := hld.one
  obtain ⟨hc1, hc2⟩ := hld.cells
  by_cases hlt : 0 < m
  · have hlt' : (0 : Int) < (m : Int) := by omega
    have hw : IntKind.i64.wrap ((m : Int) - 1) = ((m - 1 : Nat) : Int) := by rw [wr] <;> omega
    repeat' (first | (refine KT.run _ ?_) | (refine AWp.seqH fun KC => ?_) | (refine AWp.block ?_) | (refine AWp.region ?_) | (refine AWp.skip ?_) | (refine AWp.condB ?_) | (simp only [bse, wk, tys, storeH_ptr, Nat.reduceEqDiff, ↓reduceIte, reduceCtorEq, Nat.reduceAdd, Nat.reduceLeDiff, Int.reduceBEq, Int.reduceLT, Int.reduceLE, Int.reduceEq, ne_eq, not_false_eq_true, Nat.reduceMul, srcB_eq, Int.reduceToNat, Int.cast_ofNat_Int, signE_val, signE_sz, strE_sz, ledgerE_val, ledgerE_sz, ledgerResultE_val, *]))
    refine AWp.mixedU (id := 9) (.cons 1 0 (.cons 4 0 (.alt 0 1 (.alt 2 2 (.cons 3 0 (.alt 5 2 (.cons 6 0 (.alt 7 1 (.cons 8 1 (.cons 9 2 .nil)) (.cons 8 1 (.cons 7 1 (.cons 9 2 .nil))))) (.cons 8 1 (.cons 5 2 (.cons 6 0 (.cons 7 1 (.cons 9 2 .nil))))))) (.cons 8 1 (.cons 2 2 (.cons 3 0 (.cons 5 2 (.cons 6 0 (.cons 7 1 (.cons 9 2 .nil)))))))) (.alt 2 2 (.cons 3 0 (.alt 0 1 (.alt 5 2 (.cons 6 0 (.alt 7 1 (.cons 8 1 (.cons 9 2 .nil)) (.cons 8 1 (.cons 7 1 (.cons 9 2 .nil))))) (.cons 8 1 (.cons 5 2 (.cons 6 0 (.cons 7 1 (.cons 9 2 .nil)))))) (.alt 5 2 (.cons 0 0 (.cons 6 0 (.alt 7 1 (.cons 8 1 (.cons 9 2 .nil)) (.cons 8 1 (.cons 7 1 (.cons 9 2 .nil)))))) (.cons 8 1 (.alt 0 1 (.cons 5 2 (.cons 6 0 (.cons 7 1 (.cons 9 2 .nil)))) (.cons 5 2 (.cons 0 0 (.cons 6 0 (.cons 7 1 (.cons 9 2 .nil)))))))))) (.cons 8 1 (.alt 0 1 (.cons 2 2 (.cons 3 0 (.cons 5 2 (.cons 6 0 (.cons 7 1 (.cons 9 2 .nil)))))) (.cons 2 2 (.cons 3 0 (.alt 0 1 (.cons 5 2 (.cons 6 0 (.cons 7 1 (.cons 9 2 .nil)))) (.cons 5 2 (.cons 0 0 (.cons 6 0 (.cons 7 1 (.cons 9 2 .nil)))))))))))))) (by kernel_rfl) (by kernel_rfl) ?_
    refine mopsT_abs fun e0 he0 => ?_
    have r0 := congrFun he0 0
    have r3 := congrFun he0 3
    try simp only [bse, wk, tys, storeH_ptr, Nat.reduceEqDiff, ↓reduceIte, reduceCtorEq, Nat.reduceAdd, Nat.reduceLeDiff, Int.reduceBEq, Int.reduceLT, Int.reduceLE, Int.reduceEq, ne_eq, not_false_eq_true, Nat.reduceMul, srcB_eq, Int.reduceToNat, Int.cast_ofNat_Int, signE_val, signE_sz, strE_sz, ledgerE_val, ledgerE_sz, ledgerResultE_val] at r0 r3
    have he1 : Hid _ := he0
    clear he0
    refine mopsT_mono (K := fun e' H' => Agree [6, 25, 26, 27, 28, 29, 30, 31, 32] e0 e' ∧ (∃ (u5 : Int) (p : Nat) (G' : AH) (c i : Int) (tv' sv' : Value) (l' : TLedger), e' 6 = .pointer (some ⟨p + 3, 0, some 0⟩) ∧ u ≤ u5 ∧ u5 ≤ u + 2 ∧ H' = srcB 74 code u5 :: ⟨27, 0, [.slice none 0 0, .slice none 0 0], 0, true⟩ :: ⟨27, 0, [tv, sv], 0, true⟩ :: G' ∧ G'[p]? = some ⟨44, 0, [.int .i64 c, .int .i64 i, tv', sv'], 0, true⟩ ∧ LdQ tv' sv' l' G' ∧ LdQ tv sv l G' ∧ nLedger l' ≤ 30000)) ?_ _ _ _ ?_
    rotate_left
    · repeat' (first | (refine mopsT_step0 rfl rfl fun KC => ?_) | (refine mopsT_step1 rfl fun KC => ?_) | (refine mopsT_step2 rfl fun KC => ?_) | (refine mopsT_alt1 rfl (fun KC => ?_) ?_) | (refine mopsT_alt2 rfl (fun KC => ?_) ?_) | (refine ACalls.start ?_; first | (refine ACalls.get ((spec_l1NextN _ (by decide)).val rfl (Nat.zero_le _) (by repeat' (first | exact Im.nilL | refine Im.consL ?_ ?_ | refine Im.appL ?_ ?_ | exact Im.flat _ rfl | exact islE_im _ _ | exact Enc.val_im _ _ | assumption | refine Im.aggL ?_ | refine Im.funcL ?_ | refine Im.funcA ?_ | refine Im.isl ?_ | refine Im.ip ?_)) hcl (by omega) (by omega)) (by first | exact Nat.le_refl _ | exact Nat.zero_le _ | (simp only [List.length_append, List.length_cons, List.length_nil]; omega) | (simp only [List.length_set]; omega) | omega) (by first | exact Nat.le_refl _ | exact Nat.zero_le _ | (simp only [List.length_append, List.length_cons, List.length_nil]; omega) | (simp only [List.length_set]; omega) | omega) ?_; rintro _ _ ⟨_, ⟨k1, rfl, hk1⟩, _, hb7, hb8, rfl⟩) | (refine ACalls.get (sign_useL hld hl _ _ _ _ _ _) (by first | exact Nat.le_refl _ | exact Nat.zero_le _ | (simp only [List.length_append, List.length_cons, List.length_nil]; omega) | (simp only [List.length_set]; omega) | omega) (by first | exact Nat.le_refl _ | exact Nat.zero_le _ | (simp only [List.length_append, List.length_cons, List.length_nil]; omega) | (simp only [List.length_set]; omega) | omega) ?_; rintro _ _ ⟨_, _, (⟨c, i, rfl, rfl⟩ | ⟨l', v1, v2, c, i, hl', rfl, rfl⟩), rfl, rfl⟩) | (refine ACalls.get (sign_use0 hld hl _ _ _ _ _) (by first | exact Nat.le_refl _ | exact Nat.zero_le _ | (simp only [List.length_append, List.length_cons, List.length_nil]; omega) | (simp only [List.length_set]; omega) | omega) (by first | exact Nat.le_refl _ | exact Nat.zero_le _ | (simp only [List.length_append, List.length_cons, List.length_nil]; omega) | (simp only [List.length_set]; omega) | omega) ?_; rintro _ _ ⟨_, _, (⟨c, i, rfl, rfl⟩ | ⟨l', v1, v2, c, i, hl', rfl, rfl⟩), rfl, rfl⟩)) | (refine KV.run _ ?_) | (refine KQ.run _ ?_) | (refine KT.run _ ?_) | (refine AWp.seqH fun KC => ?_) | (refine AWp.block ?_) | (refine AWp.region ?_) | (refine mops_step0 rfl rfl fun KC => ?_) | (refine mops_step1 rfl fun KC => ?_) | (refine mops_step2 rfl fun KC => ?_) | (refine AWp.ret ?_) | (refine AWp.skip ?_) | (refine AWp.exit ?_) | (refine aops_callH rfl fun kC => ?_) | (refine qops_callH rfl fun kC => ?_) | (refine AWp.condB ?_) | (simp only [bse, wk, tys, storeH_ptr, Nat.reduceEqDiff, ↓reduceIte, reduceCtorEq, Nat.reduceAdd, Nat.reduceLeDiff, Int.reduceBEq, Int.reduceLT, Int.reduceLE, Int.reduceEq, ne_eq, not_false_eq_true, Nat.reduceMul, srcB_eq, Int.reduceToNat, Int.cast_ofNat_Int, signE_val, signE_sz, strE_sz, ledgerE_val, ledgerE_sz, ledgerResultE_val, *]) | (refine condK_bool (fun hb => ?_) (fun hb => ?_) <;> ((try simp only [Bool.not_eq_true', Bool.not_eq_false'] at hb) <;> (try (have hbe := of_decide_eq_true hb)) <;> (try (have hbe := eq_of_beq hb)))) | (refine aops_partB ?_) | (refine qops_partB ?_))
      all_goals first
        | exact ⟨(by repeat (first | exact Agree.refl _ _ | assumption | refine Agree.put ?_ rfl _)), _, G.length, _, c, i, _, _, ⟨[], []⟩, rfl, by omega, by omega, rfl, one0 _ _, .inl ⟨rfl, rfl, rfl⟩, hld.grow _, by simp [nLedger, nStrS]⟩
        | exact ⟨(by repeat (first | exact Agree.refl _ _ | assumption | refine Agree.put ?_ rfl _)), _, G.length + 2, _, c, i, _, _, l', rfl, by omega, by omega, rfl, three2 _ _ _ _, .inr ⟨G.length, G.length + 1, v1, v2, by omega, rfl, three0 _ _ _ _, rfl, three1 _ _ _ _⟩, hld.grow _, hl'⟩
        | exact ⟨(by repeat (first | exact Agree.refl _ _ | assumption | refine Agree.put ?_ rfl _)), _, G.length, _, c, i, _, _, l', rfl, by omega, by omega, rfl, three0 _ _ _ _, .inr ⟨G.length + 1, G.length + 2, v1, v2, by omega, rfl, three1 _ _ _ _, rfl, three2 _ _ _ _⟩, hld.grow _, hl'⟩
    rintro e1 H1 ⟨hA, u5, p, G', c, i, tv', sv', l', e6, hb7, hb8, rfl, hp, hld', hldo, hl'⟩
    have hA2 := hA
    have he3 := he1
    have he2 := he1.out
    clear he1
    have a0 := hA 0 rfl
    have a2 := hA 2 rfl
    have a3 := hA 3 rfl
    have a4 := hA 4 rfl
    have a5 := hA 5 rfl
    have a10 := hA 10 rfl
    have a11 := hA 11 rfl
    have a12 := hA 12 rfl
    have a13 := hA 13 rfl
    have a14 := hA 14 rfl
    have a15 := hA 15 rfl
    have a16 := hA 16 rfl
    have a17 := hA 17 rfl
    have a18 := hA 18 rfl
    have a19 := hA 19 rfl
    have a20 := hA 20 rfl
    have a21 := hA 21 rfl
    have a22 := hA 22 rfl
    rw [he2] at a0 a2 a3 a4 a5 a10 a11 a12 a13 a14 a15 a16 a17 a18 a19 a20 a21 a22
    try simp only [bse, wk, tys, storeH_ptr, Nat.reduceEqDiff, ↓reduceIte, reduceCtorEq, Nat.reduceAdd, Nat.reduceLeDiff, Int.reduceBEq, Int.reduceLT, Int.reduceLE, Int.reduceEq, ne_eq, not_false_eq_true, Nat.reduceMul, srcB_eq, Int.reduceToNat, Int.cast_ofNat_Int, signE_val, signE_sz, strE_sz, ledgerE_val, ledgerE_sz, ledgerResultE_val] at a0 a2 a3 a4 a5 a10 a11 a12 a13 a14 a15 a16 a17 a18 a19 a20 a21 a22
    clear hA he2
    by_cases hc : (c == 0) = true
    · obtain ⟨hq1, hq2⟩ := hld'.one
      obtain ⟨hr1, hr2⟩ := hld'.cells
      repeat' (first | (refine KT.run _ ?_) | (refine AWp.seqH fun KC => ?_) | (refine AWp.region ?_) | (refine AWp.condB ?_) | (simp only [bse, wk, tys, storeH_ptr, Nat.reduceEqDiff, ↓reduceIte, reduceCtorEq, Nat.reduceAdd, Nat.reduceLeDiff, Int.reduceBEq, Int.reduceLT, Int.reduceLE, Int.reduceEq, ne_eq, not_false_eq_true, Nat.reduceMul, srcB_eq, Int.reduceToNat, Int.cast_ofNat_Int, signE_val, signE_sz, strE_sz, ledgerE_val, ledgerE_sz, ledgerResultE_val, *]))
      exact hJ.out _ _ ⟨m - 1, by omega, u5, tv', sv', l', G', rfl, hld', hl', by omega, by omega, by omega, rfl⟩ (by repeat (first | exact Agree.refl _ _ | refine Agree.put ?_ rfl _ | refine Agree.nest hA2 rfl ?_ | rw [he3.out] | assumption))
    · have hc' : (c == 0) = false := by simpa using hc
      repeat' (first | (refine KT.run _ ?_) | (refine AWp.seqH fun KC => ?_) | (refine AWp.region ?_) | (refine AWp.skip ?_) | (refine AWp.condB ?_) | (simp only [bse, wk, tys, storeH_ptr, Nat.reduceEqDiff, ↓reduceIte, reduceCtorEq, Nat.reduceAdd, Nat.reduceLeDiff, Int.reduceBEq, Int.reduceLT, Int.reduceLE, Int.reduceEq, ne_eq, not_false_eq_true, Nat.reduceMul, srcB_eq, Int.reduceToNat, Int.cast_ofNat_Int, signE_val, signE_sz, strE_sz, ledgerE_val, ledgerE_sz, ledgerResultE_val, *]))
      exact hJ.out _ _ ⟨m - 1, by omega, u5, tv, sv, l, G', rfl, hldo, hl, by omega, by omega, by omega, rfl⟩ (by repeat (first | exact Agree.refl _ _ | refine Agree.put ?_ rfl _ | refine Agree.nest hA2 rfl ?_ | rw [he3.out] | assumption))
  have hlt' : ¬ (0 : Int) < (m : Int) := by omega
  repeat' (first | (refine KT.run _ ?_) | (refine AWp.seqH fun KC => ?_) | (refine AWp.region ?_) | (refine AWp.ret ?_) | (refine AWp.exit ?_) | (refine AWp.condB ?_) | (simp only [bse, wk, tys, storeH_ptr, Nat.reduceEqDiff, ↓reduceIte, reduceCtorEq, Nat.reduceAdd, Nat.reduceLeDiff, Int.reduceBEq, Int.reduceLT, Int.reduceLE, Int.reduceEq, ne_eq, not_false_eq_true, Nat.reduceMul, srcB_eq, Int.reduceToNat, Int.cast_ofNat_Int, signE_val, signE_sz, strE_sz, ledgerE_val, ledgerE_sz, ledgerResultE_val, *]))
  rcases hld with ⟨rfl, rfl, rfl⟩ | ⟨q, q', v1, v2, hne, rfl, h2, rfl, h4⟩
  · exact DFOut.none u rfl (.inl ⟨rfl, rfl⟩) rfl (by omega) (by omega)
  · exact DFOut.two u (q + 3) (q' + 3) rfl h2 h4 (.inr ⟨l, v1, v2, hl, rfl, rfl⟩) rfl (by omega) (by omega) (by omega) (by omega) (by omega)
end Go.BM
/- Ledgers that are drawn, and what DrawSignId draws. -/
set_option linter.unusedVariables false
set_option linter.unusedSimpArgs false
set_option maxRecDepth 100000
set_option maxHeartbeats 4000000
namespace Go.BM
open Go.Proofs Go.RowKit
attribute [local irreducible] ACalls AWp aops qops optK optP cK gateA condK mops qcallK PCalls loadV fldV idxV lenV slV storeH binS
theorem spec_l1Next3 : DCalls Tryz.prog 74 1 19 [.int .i64 3] (fun v => ∃ k : Int, v = .int .i64 k ∧ (k = 0 ∨ k = 1 ∨ k = 2)) :=
  (spec_l1Next 3 (by omega)).mono fun v ⟨k, h1, h2, h3⟩ => ⟨k, h1, by have := h3 (by omega); omega⟩
theorem nl_texts {l : TLedger} {w : ByteArray} (h : nLedger l ≤ 30000) (hw : w.size ≤ 5) : nLedger ⟨l.texts ++ [w], l.signs⟩ ≤ 31000 := by
  unfold nLedger at h ⊢
  rw [nStrS_app]
  dsimp only
  omega
theorem nl_signs {l : TLedger} {s : TSign} (h : nLedger l ≤ 30000) : nLedger ⟨l.texts, l.signs ++ [s]⟩ ≤ 31000 := by
  unfold nLedger at h ⊢
  simp
  omega
theorem nl_rep {l : TLedger} (h : nLedger l ≤ 30000) : nLedger ⟨List.replicate 61 ⟨#[]⟩, l.signs⟩ ≤ 31000 := by
  unfold nLedger at h ⊢
  have : nStrS (List.replicate 61 (⟨#[]⟩ : ByteArray)) = 61 := by decide
  rw [this]
  dsimp only
  omega
theorem spec_l1Ledger : DCalls Tryz.prog 74 50 17 [] (fun v => ∃ l : TLedger, v = ledgerE.val l ∧ nLedger l ≤ 31000) := by
  intro code a hcl h0 h1
  unfold ptr0
  refine ACalls.enter (n := 39) (rs := [.cell 2 27]) Tryz.func17 rfl rfl rfl (by kernel_rfl) (by kernel_rfl) (by kernel_rfl) (Nat.le_of_ble_eq_true rfl) ?_
  repeat' (first | (refine KT.run _ ?_) | (refine AWp.seqH fun KC => ?_) | (refine AWp.region ?_) | (refine aops_callH rfl fun kC => ?_) | (simp only [bse, wk, tys, storeH_ptr, Nat.reduceEqDiff, ↓reduceIte, reduceCtorEq, Nat.reduceAdd, Nat.reduceLeDiff, Int.reduceBEq, Int.reduceLT, Int.reduceLE, Int.reduceEq, ne_eq, not_false_eq_true, Nat.reduceMul, srcB_eq, Int.reduceToNat, Int.cast_ofNat_Int, signE_val, signE_sz, strE_sz, ledgerE_val, ledgerE_sz, ledgerResultE_val, *]))
  refine ACalls.get (spec_l1RightF.use (r := 0) dLed_sh rfl (Nat.zero_le _) (by repeat' (first | exact Im.nilL | refine Im.consL ?_ ?_ | refine Im.appL ?_ ?_ | exact Im.flat _ rfl | exact islE_im _ _ | exact Enc.val_im _ _ | assumption | refine Im.aggL ?_ | refine Im.funcL ?_ | refine Im.funcA ?_ | refine Im.isl ?_ | refine Im.ip ?_)) hcl (by omega) (by omega)) (by first | exact Nat.le_refl _ | exact Nat.zero_le _ | (simp only [List.length_append, List.length_cons, List.length_nil]; omega) | (simp only [List.length_set]; omega) | omega) (by first | exact Nat.le_refl _ | exact Nat.zero_le _ | (simp only [List.length_append, List.length_cons, List.length_nil]; omega) | (simp only [List.length_set]; omega) | omega) ?_
  rintro _ _ ⟨_, _, a1, (⟨rfl, rfl⟩ | ⟨l, v1, v2, hl, rfl, rfl⟩), ha1, ha2, rfl, rfl⟩
  · have hl : nLedger ⟨[], []⟩ ≤ 30000 := by simp [nLedger, nStrS]
    have hap := fun (b0 b1 b2 b3 : Blk) (w : ByteArray) => appendH_nil (P := Tryz.prog) (B := 0) (E := strE) (H := [b0, b1, b2, b3, ⟨9, 1, [.string w], 0, true⟩]) (t := 24) (tx := 24) (ys := [w]) (x := .slice (some ⟨4, 0, none⟩) 1 0) elZ24 zOk24 (srcV_own elZ24 rfl rfl rfl rfl (Nat.le_refl _)) (by simp) (by simp) (by simp)
    have hap2 := fun (b0 b1 b2 b3 b4 : Blk) (n1 n2 : Int) => appendH_nil (P := Tryz.prog) (B := 0) (E := signE) (H := [b0, b1, b2, b3, b4, ⟨72, 2, [.int .i64 n1, .int .i64 n2], 0, true⟩]) (t := 25) (tx := 25) (ys := [⟨n1, n2⟩]) (x := .slice (some ⟨5, 0, none⟩) 1 0) elZ25 zOk25 (srcV_own elZ25 rfl rfl rfl rfl (Nat.le_refl _)) (by simp) (by simp) (by simp)
    simp only [List.cons_append, List.nil_append, List.length_cons, List.length_nil, Nat.zero_add, Nat.reduceAdd, List.set_cons_succ, List.set_cons_zero, strE_sz, strE_val, cells_str, signE_sz, signE_val, cells_agg, strE.flat_one, signE.flat_one, sb_eq] at hap hap2
    have hmk : ∀ (b0 b1 b2 : Blk), makeH Tryz.prog [b0, b1, b2] 24 (.int .i64 61) (.int .i64 61) = some (.slice (some ⟨3, 0, none⟩) 61 0, [b0, b1, b2, ⟨9, 1, strE.flat (List.replicate 61 ⟨#[]⟩), 0, true⟩]) := fun b0 b1 b2 => makeH_cells (H := [b0, b1, b2]) (P := Tryz.prog) elZ24 zer9 zOk24 (n := 61) (by omega) (by omega)
    repeat' (first | (refine ACalls.start ?_; first | (refine ACalls.get ((spec_l1NextN _ (by decide)).val rfl (Nat.zero_le _) (by repeat' (first | exact Im.nilL | refine Im.consL ?_ ?_ | refine Im.appL ?_ ?_ | exact Im.flat _ rfl | exact islE_im _ _ | exact Enc.val_im _ _ | assumption | refine Im.aggL ?_ | refine Im.funcL ?_ | refine Im.funcA ?_ | refine Im.isl ?_ | refine Im.ip ?_)) hcl (by omega) (by omega)) (by first | exact Nat.le_refl _ | exact Nat.zero_le _ | (simp only [List.length_append, List.length_cons, List.length_nil]; omega) | (simp only [List.length_set]; omega) | omega) (by first | exact Nat.le_refl _ | exact Nat.zero_le _ | (simp only [List.length_append, List.length_cons, List.length_nil]; omega) | (simp only [List.length_set]; omega) | omega) ?_; rintro _ _ ⟨a2, ⟨k, rfl, hk⟩, _, ha3, ha4, rfl⟩)) | (refine KV.run _ ?_) | (refine KT.run _ ?_) | (refine AWp.seqH fun KC => ?_) | (refine AWp.block ?_) | (refine AWp.region ?_) | (refine AWp.ret ?_) | (refine AWp.skip ?_) | (refine aops_callH rfl fun kC => ?_) | (refine AWp.condB ?_) | (simp only [bse, wk, tys, storeH_ptr, Nat.reduceEqDiff, ↓reduceIte, reduceCtorEq, Nat.reduceAdd, Nat.reduceLeDiff, Int.reduceBEq, Int.reduceLT, Int.reduceLE, Int.reduceEq, ne_eq, not_false_eq_true, Nat.reduceMul, srcB_eq, Int.reduceToNat, Int.cast_ofNat_Int, signE_val, signE_sz, strE_sz, ledgerE_val, ledgerE_sz, ledgerResultE_val, *]) | (refine condK_bool (fun hb => ?_) (fun hb => ?_) <;> ((try simp only [Bool.not_eq_true', Bool.not_eq_false'] at hb) <;> (try (have hbe := of_decide_eq_true hb)) <;> (try (have hbe := eq_of_beq hb)))))
    all_goals first
      | exact DOut.mk _ [3] rfl (OwnL.aggL (OwnL.append (OwnL.slE (E := strE) (ys := List.replicate 61 ⟨#[]⟩) (r := 3) rfl (fun _ => rfl) (by first | rfl | simp) (strE_flat _)) (.nils .nil))) (by decide) (by decide) ⟨⟨List.replicate 61 ⟨#[]⟩, []⟩, rfl, nl_rep hl⟩ (by omega) (by omega)
      | exact DOut.mk _ [] rfl (OwnL.aggL (.nils (.nils .nil))) (by decide) (by decide) ⟨⟨[], []⟩, rfl, by omega⟩ (by omega) (by omega)
      | skip
    ·
      refine AWp.mixedU (id := 4) (.cons 0 0 (.cons 3 0 (.alt 1 1 (.alt 2 1 (.cons 4 2 (.cons 5 0 (.cons 6 0 (.cons 7 1 (.cons 8 2 (.cons 9 0 (.cons 10 2 .nil))))))) (.cons 4 2 (.cons 2 1 (.cons 5 0 (.cons 6 0 (.cons 7 1 (.cons 8 2 (.cons 9 0 (.cons 10 2 .nil))))))))) (.alt 2 1 (.alt 1 1 (.cons 4 2 (.cons 5 0 (.cons 6 0 (.cons 7 1 (.cons 8 2 (.cons 9 0 (.cons 10 2 .nil))))))) (.cons 4 2 (.cons 1 0 (.cons 5 0 (.cons 6 0 (.cons 7 1 (.cons 8 2 (.cons 9 0 (.cons 10 2 .nil))))))))) (.cons 4 2 (.cons 1 0 (.cons 2 1 (.cons 5 0 (.cons 6 0 (.cons 7 1 (.cons 8 2 (.cons 9 0 (.cons 10 2 .nil))))))))))))) (by kernel_rfl) (by kernel_rfl) ?_
      refine mopsT_abs fun e0 he0 => ?_
      have r0 := congrFun he0 0
      have r3 := congrFun he0 3
      try simp only [bse, wk, tys, storeH_ptr, Nat.reduceEqDiff, ↓reduceIte, reduceCtorEq, Nat.reduceAdd, Nat.reduceLeDiff, Int.reduceBEq, Int.reduceLT, Int.reduceLE, Int.reduceEq, ne_eq, not_false_eq_true, Nat.reduceMul, srcB_eq, Int.reduceToNat, Int.cast_ofNat_Int, signE_val, signE_sz, strE_sz, ledgerE_val, ledgerE_sz, ledgerResultE_val] at r0 r3
      have he1 : Hid _ := he0
      clear he0
      refine mopsT_mono (K := fun e' H' => Agree [10, 11, 12, 13, 14, 15, 16, 17, 18, 19] e0 e' ∧ (∃ (u8 : Int) (x y : Blk) (w : ByteArray), w.size ≤ 5 ∧ a2 ≤ u8 ∧ u8 ≤ a2 + 2 ∧ H' = [srcB 74 code u8, ⟨27, 0, [.slice none 0 0, .slice none 0 0], 0, true⟩, ⟨27, 0, [.slice (some ⟨5, 0, none⟩) 1 0, .slice none 0 0], 0, true⟩, x, y, ⟨9, 1, strE.flat [w], 0, true⟩])) ?_ _ _ _ ?_
      rotate_left
      ·
        repeat' (first | (refine mopsT_step0 rfl rfl fun KC => ?_) | (refine mopsT_step1 rfl fun KC => ?_) | (refine mopsT_step2 rfl fun KC => ?_) | (refine mopsT_alt1 rfl (fun KC => ?_) ?_) | (refine ACalls.start ?_; first | (refine ACalls.get (spec_l1Next3.val rfl (Nat.zero_le _) (by repeat' (first | exact Im.nilL | refine Im.consL ?_ ?_ | refine Im.appL ?_ ?_ | exact Im.flat _ rfl | exact islE_im _ _ | exact Enc.val_im _ _ | assumption | refine Im.aggL ?_ | refine Im.funcL ?_ | refine Im.funcA ?_ | refine Im.isl ?_ | refine Im.ip ?_)) hcl (by omega) (by omega)) (by first | exact Nat.le_refl _ | exact Nat.zero_le _ | (simp only [List.length_append, List.length_cons, List.length_nil]; omega) | (simp only [List.length_set]; omega) | omega) (by first | exact Nat.le_refl _ | exact Nat.zero_le _ | (simp only [List.length_append, List.length_cons, List.length_nil]; omega) | (simp only [List.length_set]; omega) | omega) ?_; rintro _ _ ⟨a3, ⟨_, rfl, (rfl | rfl | rfl)⟩, _, ha5, ha6, rfl⟩)) | (refine KV.run _ ?_) | (refine KT.run _ ?_) | (refine aops_callH rfl fun kC => ?_) | (simp only [bse, wk, tys, storeH_ptr, Nat.reduceEqDiff, ↓reduceIte, reduceCtorEq, Nat.reduceAdd, Nat.reduceLeDiff, Int.reduceBEq, Int.reduceLT, Int.reduceLE, Int.reduceEq, ne_eq, not_false_eq_true, Nat.reduceMul, srcB_eq, Int.reduceToNat, Int.cast_ofNat_Int, signE_val, signE_sz, strE_sz, ledgerE_val, ledgerE_sz, ledgerResultE_val, *]))
        all_goals exact ⟨(by repeat (first | exact Agree.refl _ _ | assumption | refine Agree.put ?_ rfl _)), _, _, _, _, by decide, by omega, by omega, rfl⟩
      rintro e1 H1 ⟨hA, u8, x, y, w, hw5, hb7, hb8, rfl⟩
      have he2 := he1.out
      clear he1
      have a0 := hA 0 rfl
      have a2 := hA 2 rfl
      have a3 := hA 3 rfl
      have a7 := hA 7 rfl
      rw [he2] at a0 a2 a3 a7
      try simp only [bse, wk, tys, storeH_ptr, Nat.reduceEqDiff, ↓reduceIte, reduceCtorEq, Nat.reduceAdd, Nat.reduceLeDiff, Int.reduceBEq, Int.reduceLT, Int.reduceLE, Int.reduceEq, ne_eq, not_false_eq_true, Nat.reduceMul, srcB_eq, Int.reduceToNat, Int.cast_ofNat_Int, signE_val, signE_sz, strE_sz, ledgerE_val, ledgerE_sz, ledgerResultE_val] at a0 a2 a3 a7
      clear hA he2
      repeat' (first | (refine KT.run _ ?_) | (refine AWp.seqH fun KC => ?_) | (refine AWp.region ?_) | (refine AWp.ret ?_) | (simp only [bse, wk, tys, storeH_ptr, Nat.reduceEqDiff, ↓reduceIte, reduceCtorEq, Nat.reduceAdd, Nat.reduceLeDiff, Int.reduceBEq, Int.reduceLT, Int.reduceLE, Int.reduceEq, ne_eq, not_false_eq_true, Nat.reduceMul, srcB_eq, Int.reduceToNat, Int.cast_ofNat_Int, signE_val, signE_sz, strE_sz, ledgerE_val, ledgerE_sz, ledgerResultE_val, *]))
      exact DOut.mk _ [5] rfl (OwnL.aggL (OwnL.append (OwnL.slE (E := strE) (ys := [w]) (r := 5) rfl (fun _ => rfl) (by first | rfl | simp) (strE_flat _)) (.nils .nil))) (by decide) (by decide) ⟨⟨[w], []⟩, rfl, nl_texts hl hw5⟩ (by omega) (by omega)
    ·
      refine AWp.mixedU (id := 6) (.cons 0 0 (.cons 2 0 (.cons 5 0 (.alt 1 1 (.alt 3 1 (.alt 4 2 (.cons 6 1 (.cons 7 2 (.cons 8 0 (.cons 9 1 (.cons 10 2 (.cons 11 0 (.cons 12 2 .nil))))))) (.cons 6 1 (.cons 4 2 (.cons 7 2 (.cons 8 0 (.cons 9 1 (.cons 10 2 (.cons 11 0 (.cons 12 2 .nil))))))))) (.cons 6 1 (.cons 3 1 (.cons 4 2 (.cons 7 2 (.cons 8 0 (.cons 9 1 (.cons 10 2 (.cons 11 0 (.cons 12 2 .nil)))))))))) (.alt 3 1 (.alt 1 1 (.alt 4 2 (.cons 6 1 (.cons 7 2 (.cons 8 0 (.cons 9 1 (.cons 10 2 (.cons 11 0 (.cons 12 2 .nil))))))) (.cons 6 1 (.cons 4 2 (.cons 7 2 (.cons 8 0 (.cons 9 1 (.cons 10 2 (.cons 11 0 (.cons 12 2 .nil))))))))) (.alt 4 2 (.alt 1 1 (.cons 6 1 (.cons 7 2 (.cons 8 0 (.cons 9 1 (.cons 10 2 (.cons 11 0 (.cons 12 2 .nil))))))) (.cons 6 1 (.alt 1 1 (.cons 7 2 (.cons 8 0 (.cons 9 1 (.cons 10 2 (.cons 11 0 (.cons 12 2 .nil)))))) (.cons 7 2 (.cons 1 0 (.cons 8 0 (.cons 9 1 (.cons 10 2 (.cons 11 0 (.cons 12 2 .nil)))))))))) (.cons 6 1 (.alt 1 1 (.cons 4 2 (.cons 7 2 (.cons 8 0 (.cons 9 1 (.cons 10 2 (.cons 11 0 (.cons 12 2 .nil))))))) (.cons 4 2 (.alt 1 1 (.cons 7 2 (.cons 8 0 (.cons 9 1 (.cons 10 2 (.cons 11 0 (.cons 12 2 .nil)))))) (.cons 7 2 (.cons 1 0 (.cons 8 0 (.cons 9 1 (.cons 10 2 (.cons 11 0 (.cons 12 2 .nil))))))))))))) (.cons 6 1 (.alt 1 1 (.cons 3 1 (.cons 4 2 (.cons 7 2 (.cons 8 0 (.cons 9 1 (.cons 10 2 (.cons 11 0 (.cons 12 2 .nil)))))))) (.cons 3 1 (.alt 1 1 (.cons 4 2 (.cons 7 2 (.cons 8 0 (.cons 9 1 (.cons 10 2 (.cons 11 0 (.cons 12 2 .nil))))))) (.cons 4 2 (.alt 1 1 (.cons 7 2 (.cons 8 0 (.cons 9 1 (.cons 10 2 (.cons 11 0 (.cons 12 2 .nil)))))) (.cons 7 2 (.cons 1 0 (.cons 8 0 (.cons 9 1 (.cons 10 2 (.cons 11 0 (.cons 12 2 .nil)))))))))))))))))) (by kernel_rfl) (by kernel_rfl) ?_
      refine mopsT_abs fun e0 he0 => ?_
      have r0 := congrFun he0 0
      have r3 := congrFun he0 3
      try simp only [bse, wk, tys, storeH_ptr, Nat.reduceEqDiff, ↓reduceIte, reduceCtorEq, Nat.reduceAdd, Nat.reduceLeDiff, Int.reduceBEq, Int.reduceLT, Int.reduceLE, Int.reduceEq, ne_eq, not_false_eq_true, Nat.reduceMul, srcB_eq, Int.reduceToNat, Int.cast_ofNat_Int, signE_val, signE_sz, strE_sz, ledgerE_val, ledgerE_sz, ledgerResultE_val] at r0 r3
      have he1 : Hid _ := he0
      clear he0
      refine mopsT_mono (K := fun e' H' => Agree [22, 23, 24, 25, 26, 27, 28, 29, 30, 31, 32, 33] e0 e' ∧ (∃ (u8 : Int) (x y z : Blk) (n1 n2 : Int), a2 ≤ u8 ∧ u8 ≤ a2 + 2 ∧ H' = [srcB 74 code u8, ⟨27, 0, [.slice none 0 0, .slice none 0 0], 0, true⟩, ⟨27, 0, [.slice none 0 0, .slice (some ⟨6, 0, none⟩) 1 0], 0, true⟩, x, y, z, ⟨72, 2, signE.flat [⟨n1, n2⟩], 0, true⟩])) ?_ _ _ _ ?_
      rotate_left
      ·
        repeat' (first | (refine mopsT_step0 rfl rfl fun KC => ?_) | (refine mopsT_step1 rfl fun KC => ?_) | (refine mopsT_step2 rfl fun KC => ?_) | (refine mopsT_alt1 rfl (fun KC => ?_) ?_) | (refine mopsT_alt2 rfl (fun KC => ?_) ?_) | (refine ACalls.start ?_; first | (refine ACalls.get (spec_l1PickA (r := 0) rfl (Nat.zero_le _) (by first | exact rfl | exact get_c1 | exact get_c2 | exact get_c3 | exact get_c4 | exact get_c0 | exact get_c2m | exact get_c3m) (by first | exact ⟨[_], Nat.succ_pos _, Nat.le_of_ble_eq_true rfl, rfl, rfl⟩ | exact ⟨[_, _], Nat.succ_pos _, Nat.le_of_ble_eq_true rfl, rfl, rfl⟩ | exact ⟨[_, _, _], Nat.succ_pos _, Nat.le_of_ble_eq_true rfl, rfl, rfl⟩ | exact ⟨[_, _, _, _], Nat.succ_pos _, Nat.le_of_ble_eq_true rfl, rfl, rfl⟩ | exact ⟨[_, _, _, _, _], Nat.succ_pos _, Nat.le_of_ble_eq_true rfl, rfl, rfl⟩ | exact ⟨[_, _, _, _, _, _], Nat.succ_pos _, Nat.le_of_ble_eq_true rfl, rfl, rfl⟩) (by omega) hcl (by omega) (by omega)) (by first | exact Nat.le_refl _ | exact Nat.zero_le _ | (simp only [List.length_append, List.length_cons, List.length_nil]; omega) | (simp only [List.length_set]; omega) | omega) (by first | exact Nat.le_refl _ | exact Nat.zero_le _ | (simp only [List.length_append, List.length_cons, List.length_nil]; omega) | (simp only [List.length_set]; omega) | omega) ?_; rintro _ _ ⟨k3, a7, rfl, ha7, ha8, rfl⟩)) | (refine KV.run _ ?_) | (refine KT.run _ ?_) | (refine aops_callH rfl fun kC => ?_) | (simp only [bse, wk, tys, storeH_ptr, Nat.reduceEqDiff, ↓reduceIte, reduceCtorEq, Nat.reduceAdd, Nat.reduceLeDiff, Int.reduceBEq, Int.reduceLT, Int.reduceLE, Int.reduceEq, ne_eq, not_false_eq_true, Nat.reduceMul, srcB_eq, Int.reduceToNat, Int.cast_ofNat_Int, signE_val, signE_sz, strE_sz, ledgerE_val, ledgerE_sz, ledgerResultE_val, *]))
        all_goals exact ⟨(by repeat (first | exact Agree.refl _ _ | assumption | refine Agree.put ?_ rfl _)), _, _, _, _, _, _, by omega, by omega, rfl⟩
      rintro e1 H1 ⟨hA, u8, x, y, z, n1, n2, hb7, hb8, rfl⟩
      have he2 := he1.out
      clear he1
      have a2 := hA 2 rfl
      have a3 := hA 3 rfl
      have a7 := hA 7 rfl
      rw [he2] at a2 a3 a7
      try simp only [bse, wk, tys, storeH_ptr, Nat.reduceEqDiff, ↓reduceIte, reduceCtorEq, Nat.reduceAdd, Nat.reduceLeDiff, Int.reduceBEq, Int.reduceLT, Int.reduceLE, Int.reduceEq, ne_eq, not_false_eq_true, Nat.reduceMul, srcB_eq, Int.reduceToNat, Int.cast_ofNat_Int, signE_val, signE_sz, strE_sz, ledgerE_val, ledgerE_sz, ledgerResultE_val] at a2 a3 a7
      clear hA he2
      repeat' (first | (refine KT.run _ ?_) | (refine AWp.seqH fun KC => ?_) | (refine AWp.region ?_) | (refine AWp.ret ?_) | (simp only [bse, wk, tys, storeH_ptr, Nat.reduceEqDiff, ↓reduceIte, reduceCtorEq, Nat.reduceAdd, Nat.reduceLeDiff, Int.reduceBEq, Int.reduceLT, Int.reduceLE, Int.reduceEq, ne_eq, not_false_eq_true, Nat.reduceMul, srcB_eq, Int.reduceToNat, Int.cast_ofNat_Int, signE_val, signE_sz, strE_sz, ledgerE_val, ledgerE_sz, ledgerResultE_val, *]))
      exact DOut.mk _ [6] rfl (OwnL.aggL (.nils (OwnL.append (OwnL.slE (E := signE) (ys := [⟨n1, n2⟩]) (r := 6) rfl (fun _ => rfl) (by first | rfl | simp) (signE_flat _)) .nil))) (by decide) (by decide) ⟨⟨[], [⟨n1, n2⟩]⟩, rfl, nl_signs hl⟩ (by omega) (by omega)
  · have ht1 : l.texts.length ≤ 30000 := by have := nStrS_len l.texts; unfold nLedger at hl; omega
    have hs1 : l.signs.length ≤ 30000 := by unfold nLedger at hl; omega
    have hap := fun (b0 b1 b3 b4 b5 : Blk) (y : ByteArray) => appendH_one (P := Tryz.prog) (B := 0) (E := strE) (H0 := [b0, b1, ⟨9, 1, strE.flat l.texts, v1, true⟩, b3, b4, b5]) (ys := l.texts) y elZ24 elZ24 zOk24 (r := 2) rfl (Nat.zero_le _) (by omega) (by omega)
    have hap2 := fun (b0 b1 b2 b4 b5 b6 : Blk) (n1 n2 : Int) => appendH_one (P := Tryz.prog) (B := 0) (E := signE) (H0 := [b0, b1, b2, ⟨72, 2, signE.flat l.signs, v2, true⟩, b4, b5, b6]) (ys := l.signs) ⟨n1, n2⟩ elZ25 elZ25 zOk25 (r := 3) rfl (Nat.zero_le _) (by omega) (by omega)
    simp only [List.cons_append, List.nil_append, List.length_cons, List.length_nil, Nat.zero_add, Nat.reduceAdd, List.set_cons_succ, List.set_cons_zero, strE_sz, strE_val, cells_str, signE_sz, signE_val, cells_agg, strE.flat_one, signE.flat_one, sb_eq] at hap hap2
    have hmk : ∀ (b0 b1 b2 b3 b4 : Blk), makeH Tryz.prog [b0, b1, b2, b3, b4] 24 (.int .i64 61) (.int .i64 61) = some (.slice (some ⟨5, 0, none⟩) 61 0, [b0, b1, b2, b3, b4, ⟨9, 1, strE.flat (List.replicate 61 ⟨#[]⟩), 0, true⟩]) := fun b0 b1 b2 b3 b4 => makeH_cells (H := [b0, b1, b2, b3, b4]) (P := Tryz.prog) elZ24 zer9 zOk24 (n := 61) (by omega) (by omega)
    repeat' (first | (refine ACalls.start ?_; first | (refine ACalls.get ((spec_l1NextN _ (by decide)).val rfl (Nat.zero_le _) (by repeat' (first | exact Im.nilL | refine Im.consL ?_ ?_ | refine Im.appL ?_ ?_ | exact Im.flat _ rfl | exact islE_im _ _ | exact Enc.val_im _ _ | assumption | refine Im.aggL ?_ | refine Im.funcL ?_ | refine Im.funcA ?_ | refine Im.isl ?_ | refine Im.ip ?_)) hcl (by omega) (by omega)) (by first | exact Nat.le_refl _ | exact Nat.zero_le _ | (simp only [List.length_append, List.length_cons, List.length_nil]; omega) | (simp only [List.length_set]; omega) | omega) (by first | exact Nat.le_refl _ | exact Nat.zero_le _ | (simp only [List.length_append, List.length_cons, List.length_nil]; omega) | (simp only [List.length_set]; omega) | omega) ?_; rintro _ _ ⟨a2, ⟨k, rfl, hk⟩, _, ha3, ha4, rfl⟩)) | (refine KV.run _ ?_) | (refine KT.run _ ?_) | (refine AWp.seqH fun KC => ?_) | (refine AWp.block ?_) | (refine AWp.region ?_) | (refine AWp.ret ?_) | (refine AWp.skip ?_) | (refine aops_callH rfl fun kC => ?_) | (refine AWp.condB ?_) | (simp only [bse, wk, tys, storeH_ptr, Nat.reduceEqDiff, ↓reduceIte, reduceCtorEq, Nat.reduceAdd, Nat.reduceLeDiff, Int.reduceBEq, Int.reduceLT, Int.reduceLE, Int.reduceEq, ne_eq, not_false_eq_true, Nat.reduceMul, srcB_eq, Int.reduceToNat, Int.cast_ofNat_Int, signE_val, signE_sz, strE_sz, ledgerE_val, ledgerE_sz, ledgerResultE_val, *]) | (refine condK_bool (fun hb => ?_) (fun hb => ?_) <;> ((try simp only [Bool.not_eq_true', Bool.not_eq_false'] at hb) <;> (try (have hbe := of_decide_eq_true hb)) <;> (try (have hbe := eq_of_beq hb)))))
    all_goals first
      | exact DOut.mk _ [5, 3] rfl (OwnL.aggL (OwnL.append (OwnL.slE (E := strE) (ys := List.replicate 61 ⟨#[]⟩) (r := 5) rfl (fun _ => rfl) (by first | rfl | simp) (strE_flat _)) (OwnL.append (OwnL.slE (E := signE) (ys := l.signs) (r := 3) rfl (fun _ => rfl) (by first | rfl | simp) (signE_flat _)) .nil))) (by decide) (by decide) ⟨⟨List.replicate 61 ⟨#[]⟩, l.signs⟩, rfl, nl_rep hl⟩ (by omega) (by omega)
      | exact DOut.mk _ [2, 3] rfl (OwnL.aggL (OwnL.append (OwnL.slE (E := strE) (ys := l.texts) (r := 2) rfl (fun _ => rfl) (by first | rfl | simp) (strE_flat _)) (OwnL.append (OwnL.slE (E := signE) (ys := l.signs) (r := 3) rfl (fun _ => rfl) (by first | rfl | simp) (signE_flat _)) .nil))) (by decide) (by decide) ⟨l, rfl, by omega⟩ (by omega) (by omega)
      | skip
    ·
      refine AWp.mixedU (id := 4) (.cons 0 0 (.cons 3 0 (.alt 1 1 (.alt 2 1 (.cons 4 2 (.cons 5 0 (.cons 6 0 (.cons 7 1 (.cons 8 2 (.cons 9 0 (.cons 10 2 .nil))))))) (.cons 4 2 (.cons 2 1 (.cons 5 0 (.cons 6 0 (.cons 7 1 (.cons 8 2 (.cons 9 0 (.cons 10 2 .nil))))))))) (.alt 2 1 (.alt 1 1 (.cons 4 2 (.cons 5 0 (.cons 6 0 (.cons 7 1 (.cons 8 2 (.cons 9 0 (.cons 10 2 .nil))))))) (.cons 4 2 (.cons 1 0 (.cons 5 0 (.cons 6 0 (.cons 7 1 (.cons 8 2 (.cons 9 0 (.cons 10 2 .nil))))))))) (.cons 4 2 (.cons 1 0 (.cons 2 1 (.cons 5 0 (.cons 6 0 (.cons 7 1 (.cons 8 2 (.cons 9 0 (.cons 10 2 .nil))))))))))))) (by kernel_rfl) (by kernel_rfl) ?_
      refine mopsT_abs fun e0 he0 => ?_
      have r0 := congrFun he0 0
      have r3 := congrFun he0 3
      try simp only [bse, wk, tys, storeH_ptr, Nat.reduceEqDiff, ↓reduceIte, reduceCtorEq, Nat.reduceAdd, Nat.reduceLeDiff, Int.reduceBEq, Int.reduceLT, Int.reduceLE, Int.reduceEq, ne_eq, not_false_eq_true, Nat.reduceMul, srcB_eq, Int.reduceToNat, Int.cast_ofNat_Int, signE_val, signE_sz, strE_sz, ledgerE_val, ledgerE_sz, ledgerResultE_val] at r0 r3
      have he1 : Hid _ := he0
      clear he0
      refine mopsT_mono (K := fun e' H' => Agree [10, 11, 12, 13, 14, 15, 16, 17, 18, 19] e0 e' ∧ (∃ (u8 : Int) (x y : Blk) (w : ByteArray), w.size ≤ 5 ∧ a2 ≤ u8 ∧ u8 ≤ a2 + 2 ∧ H' = [srcB 74 code u8, ⟨27, 0, [.slice none 0 0, .slice none 0 0], 0, true⟩, ⟨9, 1, strE.flat (l.texts ++ [w]), v1 + 1, true⟩, ⟨72, 2, signE.flat l.signs, v2, true⟩, ⟨27, 0, [.slice (some ⟨2, 0, none⟩) (l.texts.length + 1) (v1 + 1), .slice (some ⟨3, 0, none⟩) l.signs.length v2], 0, true⟩, x, y])) ?_ _ _ _ ?_
      rotate_left
      ·
        repeat' (first | (refine mopsT_step0 rfl rfl fun KC => ?_) | (refine mopsT_step1 rfl fun KC => ?_) | (refine mopsT_step2 rfl fun KC => ?_) | (refine mopsT_alt1 rfl (fun KC => ?_) ?_) | (refine ACalls.start ?_; first | (refine ACalls.get (spec_l1Next3.val rfl (Nat.zero_le _) (by repeat' (first | exact Im.nilL | refine Im.consL ?_ ?_ | refine Im.appL ?_ ?_ | exact Im.flat _ rfl | exact islE_im _ _ | exact Enc.val_im _ _ | assumption | refine Im.aggL ?_ | refine Im.funcL ?_ | refine Im.funcA ?_ | refine Im.isl ?_ | refine Im.ip ?_)) hcl (by omega) (by omega)) (by first | exact Nat.le_refl _ | exact Nat.zero_le _ | (simp only [List.length_append, List.length_cons, List.length_nil]; omega) | (simp only [List.length_set]; omega) | omega) (by first | exact Nat.le_refl _ | exact Nat.zero_le _ | (simp only [List.length_append, List.length_cons, List.length_nil]; omega) | (simp only [List.length_set]; omega) | omega) ?_; rintro _ _ ⟨a3, ⟨_, rfl, (rfl | rfl | rfl)⟩, _, ha5, ha6, rfl⟩)) | (refine KV.run _ ?_) | (refine KT.run _ ?_) | (refine aops_callH rfl fun kC => ?_) | (simp only [bse, wk, tys, storeH_ptr, Nat.reduceEqDiff, ↓reduceIte, reduceCtorEq, Nat.reduceAdd, Nat.reduceLeDiff, Int.reduceBEq, Int.reduceLT, Int.reduceLE, Int.reduceEq, ne_eq, not_false_eq_true, Nat.reduceMul, srcB_eq, Int.reduceToNat, Int.cast_ofNat_Int, signE_val, signE_sz, strE_sz, ledgerE_val, ledgerE_sz, ledgerResultE_val, *]))
        all_goals exact ⟨(by repeat (first | exact Agree.refl _ _ | assumption | refine Agree.put ?_ rfl _)), _, _, _, _, by decide, by omega, by omega, rfl⟩
      rintro e1 H1 ⟨hA, u8, x, y, w, hw5, hb7, hb8, rfl⟩
      have he2 := he1.out
      clear he1
      have a0 := hA 0 rfl
      have a2 := hA 2 rfl
      have a3 := hA 3 rfl
      have a7 := hA 7 rfl
      rw [he2] at a0 a2 a3 a7
      try simp only [bse, wk, tys, storeH_ptr, Nat.reduceEqDiff, ↓reduceIte, reduceCtorEq, Nat.reduceAdd, Nat.reduceLeDiff, Int.reduceBEq, Int.reduceLT, Int.reduceLE, Int.reduceEq, ne_eq, not_false_eq_true, Nat.reduceMul, srcB_eq, Int.reduceToNat, Int.cast_ofNat_Int, signE_val, signE_sz, strE_sz, ledgerE_val, ledgerE_sz, ledgerResultE_val] at a0 a2 a3 a7
      clear hA he2
      repeat' (first | (refine KT.run _ ?_) | (refine AWp.seqH fun KC => ?_) | (refine AWp.region ?_) | (refine AWp.ret ?_) | (simp only [bse, wk, tys, storeH_ptr, Nat.reduceEqDiff, ↓reduceIte, reduceCtorEq, Nat.reduceAdd, Nat.reduceLeDiff, Int.reduceBEq, Int.reduceLT, Int.reduceLE, Int.reduceEq, ne_eq, not_false_eq_true, Nat.reduceMul, srcB_eq, Int.reduceToNat, Int.cast_ofNat_Int, signE_val, signE_sz, strE_sz, ledgerE_val, ledgerE_sz, ledgerResultE_val, *]))
      exact DOut.mk _ [2, 3] rfl (OwnL.aggL (OwnL.append (OwnL.slE (E := strE) (ys := l.texts ++ [w]) (r := 2) rfl (fun _ => rfl) (by first | rfl | simp) (strE_flat _)) (OwnL.append (OwnL.slE (E := signE) (ys := l.signs) (r := 3) rfl (fun _ => rfl) (by first | rfl | simp) (signE_flat _)) .nil))) (by decide) (by decide) ⟨⟨l.texts ++ [w], l.signs⟩, rfl, nl_texts hl hw5⟩ (by omega) (by omega)
    ·
      refine AWp.mixedU (id := 6) (.cons 0 0 (.cons 2 0 (.cons 5 0 (.alt 1 1 (.alt 3 1 (.alt 4 2 (.cons 6 1 (.cons 7 2 (.cons 8 0 (.cons 9 1 (.cons 10 2 (.cons 11 0 (.cons 12 2 .nil))))))) (.cons 6 1 (.cons 4 2 (.cons 7 2 (.cons 8 0 (.cons 9 1 (.cons 10 2 (.cons 11 0 (.cons 12 2 .nil))))))))) (.cons 6 1 (.cons 3 1 (.cons 4 2 (.cons 7 2 (.cons 8 0 (.cons 9 1 (.cons 10 2 (.cons 11 0 (.cons 12 2 .nil)))))))))) (.alt 3 1 (.alt 1 1 (.alt 4 2 (.cons 6 1 (.cons 7 2 (.cons 8 0 (.cons 9 1 (.cons 10 2 (.cons 11 0 (.cons 12 2 .nil))))))) (.cons 6 1 (.cons 4 2 (.cons 7 2 (.cons 8 0 (.cons 9 1 (.cons 10 2 (.cons 11 0 (.cons 12 2 .nil))))))))) (.alt 4 2 (.alt 1 1 (.cons 6 1 (.cons 7 2 (.cons 8 0 (.cons 9 1 (.cons 10 2 (.cons 11 0 (.cons 12 2 .nil))))))) (.cons 6 1 (.alt 1 1 (.cons 7 2 (.cons 8 0 (.cons 9 1 (.cons 10 2 (.cons 11 0 (.cons 12 2 .nil)))))) (.cons 7 2 (.cons 1 0 (.cons 8 0 (.cons 9 1 (.cons 10 2 (.cons 11 0 (.cons 12 2 .nil)))))))))) (.cons 6 1 (.alt 1 1 (.cons 4 2 (.cons 7 2 (.cons 8 0 (.cons 9 1 (.cons 10 2 (.cons 11 0 (.cons 12 2 .nil))))))) (.cons 4 2 (.alt 1 1 (.cons 7 2 (.cons 8 0 (.cons 9 1 (.cons 10 2 (.cons 11 0 (.cons 12 2 .nil)))))) (.cons 7 2 (.cons 1 0 (.cons 8 0 (.cons 9 1 (.cons 10 2 (.cons 11 0 (.cons 12 2 .nil))))))))))))) (.cons 6 1 (.alt 1 1 (.cons 3 1 (.cons 4 2 (.cons 7 2 (.cons 8 0 (.cons 9 1 (.cons 10 2 (.cons 11 0 (.cons 12 2 .nil)))))))) (.cons 3 1 (.alt 1 1 (.cons 4 2 (.cons 7 2 (.cons 8 0 (.cons 9 1 (.cons 10 2 (.cons 11 0 (.cons 12 2 .nil))))))) (.cons 4 2 (.alt 1 1 (.cons 7 2 (.cons 8 0 (.cons 9 1 (.cons 10 2 (.cons 11 0 (.cons 12 2 .nil)))))) (.cons 7 2 (.cons 1 0 (.cons 8 0 (.cons 9 1 (.cons 10 2 (.cons 11 0 (.cons 12 2 .nil)))))))))))))))))) (by kernel_rfl) (by kernel_rfl) ?_
      refine mopsT_abs fun e0 he0 => ?_
      have r0 := congrFun he0 0
      have r3 := congrFun he0 3
      try simp only [bse, wk, tys, storeH_ptr, Nat.reduceEqDiff, ↓reduceIte, reduceCtorEq, Nat.reduceAdd, Nat.reduceLeDiff, Int.reduceBEq, Int.reduceLT, Int.reduceLE, Int.reduceEq, ne_eq, not_false_eq_true, Nat.reduceMul, srcB_eq, Int.reduceToNat, Int.cast_ofNat_Int, signE_val, signE_sz, strE_sz, ledgerE_val, ledgerE_sz, ledgerResultE_val] at r0 r3
      have he1 : Hid _ := he0
      clear he0
      refine mopsT_mono (K := fun e' H' => Agree [22, 23, 24, 25, 26, 27, 28, 29, 30, 31, 32, 33] e0 e' ∧ (∃ (u8 : Int) (x y z : Blk) (n1 n2 : Int), a2 ≤ u8 ∧ u8 ≤ a2 + 2 ∧ H' = [srcB 74 code u8, ⟨27, 0, [.slice none 0 0, .slice none 0 0], 0, true⟩, ⟨9, 1, strE.flat l.texts, v1, true⟩, ⟨72, 2, signE.flat (l.signs ++ [⟨n1, n2⟩]), v2 + 1, true⟩, ⟨27, 0, [.slice (some ⟨2, 0, none⟩) l.texts.length v1, .slice (some ⟨3, 0, none⟩) (l.signs.length + 1) (v2 + 1)], 0, true⟩, x, y, z])) ?_ _ _ _ ?_
      rotate_left
      ·
        repeat' (first | (refine mopsT_step0 rfl rfl fun KC => ?_) | (refine mopsT_step1 rfl fun KC => ?_) | (refine mopsT_step2 rfl fun KC => ?_) | (refine mopsT_alt1 rfl (fun KC => ?_) ?_) | (refine mopsT_alt2 rfl (fun KC => ?_) ?_) | (refine ACalls.start ?_; first | (refine ACalls.get (spec_l1PickA (r := 0) rfl (Nat.zero_le _) (by first | exact rfl | exact get_c1 | exact get_c2 | exact get_c3 | exact get_c4 | exact get_c0 | exact get_c2m | exact get_c3m) (by first | exact ⟨[_], Nat.succ_pos _, Nat.le_of_ble_eq_true rfl, rfl, rfl⟩ | exact ⟨[_, _], Nat.succ_pos _, Nat.le_of_ble_eq_true rfl, rfl, rfl⟩ | exact ⟨[_, _, _], Nat.succ_pos _, Nat.le_of_ble_eq_true rfl, rfl, rfl⟩ | exact ⟨[_, _, _, _], Nat.succ_pos _, Nat.le_of_ble_eq_true rfl, rfl, rfl⟩ | exact ⟨[_, _, _, _, _], Nat.succ_pos _, Nat.le_of_ble_eq_true rfl, rfl, rfl⟩ | exact ⟨[_, _, _, _, _, _], Nat.succ_pos _, Nat.le_of_ble_eq_true rfl, rfl, rfl⟩) (by omega) hcl (by omega) (by omega)) (by first | exact Nat.le_refl _ | exact Nat.zero_le _ | (simp only [List.length_append, List.length_cons, List.length_nil]; omega) | (simp only [List.length_set]; omega) | omega) (by first | exact Nat.le_refl _ | exact Nat.zero_le _ | (simp only [List.length_append, List.length_cons, List.length_nil]; omega) | (simp only [List.length_set]; omega) | omega) ?_; rintro _ _ ⟨k3, a7, rfl, ha7, ha8, rfl⟩)) | (refine KV.run _ ?_) | (refine KT.run _ ?_) | (refine aops_callH rfl fun kC => ?_) | (simp only [bse, wk, tys, storeH_ptr, Nat.reduceEqDiff, ↓reduceIte, reduceCtorEq, Nat.reduceAdd, Nat.reduceLeDiff, Int.reduceBEq, Int.reduceLT, Int.reduceLE, Int.reduceEq, ne_eq, not_false_eq_true, Nat.reduceMul, srcB_eq, Int.reduceToNat, Int.cast_ofNat_Int, signE_val, signE_sz, strE_sz, ledgerE_val, ledgerE_sz, ledgerResultE_val, *]))
        all_goals exact ⟨(by repeat (first | exact Agree.refl _ _ | assumption | refine Agree.put ?_ rfl _)), _, _, _, _, _, _, by omega, by omega, rfl⟩
      rintro e1 H1 ⟨hA, u8, x, y, z, n1, n2, hb7, hb8, rfl⟩
      have he2 := he1.out
      clear he1
      have a2 := hA 2 rfl
      have a3 := hA 3 rfl
      have a7 := hA 7 rfl
      rw [he2] at a2 a3 a7
      try simp only [bse, wk, tys, storeH_ptr, Nat.reduceEqDiff, ↓reduceIte, reduceCtorEq, Nat.reduceAdd, Nat.reduceLeDiff, Int.reduceBEq, Int.reduceLT, Int.reduceLE, Int.reduceEq, ne_eq, not_false_eq_true, Nat.reduceMul, srcB_eq, Int.reduceToNat, Int.cast_ofNat_Int, signE_val, signE_sz, strE_sz, ledgerE_val, ledgerE_sz, ledgerResultE_val] at a2 a3 a7
      clear hA he2
      repeat' (first | (refine KT.run _ ?_) | (refine AWp.seqH fun KC => ?_) | (refine AWp.region ?_) | (refine AWp.ret ?_) | (simp only [bse, wk, tys, storeH_ptr, Nat.reduceEqDiff, ↓reduceIte, reduceCtorEq, Nat.reduceAdd, Nat.reduceLeDiff, Int.reduceBEq, Int.reduceLT, Int.reduceLE, Int.reduceEq, ne_eq, not_false_eq_true, Nat.reduceMul, srcB_eq, Int.reduceToNat, Int.cast_ofNat_Int, signE_val, signE_sz, strE_sz, ledgerE_val, ledgerE_sz, ledgerResultE_val, *]))
      exact DOut.mk _ [2, 3] rfl (OwnL.aggL (OwnL.append (OwnL.slE (E := strE) (ys := l.texts) (r := 2) rfl (fun _ => rfl) (by first | rfl | simp) (strE_flat _)) (OwnL.append (OwnL.slE (E := signE) (ys := l.signs ++ [⟨n1, n2⟩]) (r := 3) rfl (fun _ => rfl) (by first | rfl | simp) (signE_flat _)) .nil))) (by decide) (by decide) ⟨⟨l.texts, l.signs ++ [⟨n1, n2⟩]⟩, rfl, nl_signs hl⟩ (by omega) (by omega)
end Go.BM
