/- Who owns what: slices and structs of the laws. -/
import Derived.Test.YtfggnccpbdfpeaaM1
import Derived.Test.YtfggnccpbdfpeaaM2
import Derived.Test.YtfggnccpbdfpeaaD2
import Derived.Test.YtfggnccpbdfpeaaC25
set_option linter.unusedVariables false
set_option linter.unusedSimpArgs false
set_option maxRecDepth 100000
set_option maxHeartbeats 4000000
namespace Go.BM
open Go.Proofs Go.RowKit
attribute [local irreducible] ACalls AWp aops qops optK optP cK gateA condK mops qcallK PCalls loadV fldV idxV lenV slV storeH binS
theorem own_toInt64S (xs : List Int) (hn : xs.length ≤ 1048576) : NCalls Try.prog 48 [islE intE xs] (islE intE xs) :=
  (laws_toInt64S_own [] xs hn).mono fun d H' ⟨h1, h2⟩ => by
    subst h1 h2
    exact OwnL.sl1 (intE_flat xs)
theorem laws_markInt64S0 (k : Int) : PCalls Try.prog 52 [islE intE [], .int .i64 k] (.int .i64 k) := by
  refine PCalls.flat rfl ?_; refine ACalls.enter (n := 19) (rs := [.tmp 4]) Try.func52 rfl rfl rfl (by kernel_rfl) (by kernel_rfl) (by kernel_rfl) (Nat.le_of_ble_eq_true rfl) ?_
  repeat' (first | (refine KV.run _ ?_) | (refine KQ.run _ ?_) | (refine KT.run _ ?_) | (refine AWp.seqH fun KC => ?_) | (refine AWp.block ?_) | (refine AWp.region ?_) | (refine mops_step0 rfl rfl fun KC => ?_) | (refine mops_step1 rfl fun KC => ?_) | (refine mops_step2 rfl fun KC => ?_) | (refine AWp.ret ?_) | (refine AWp.skip ?_) | (refine AWp.exit ?_) | (refine aops_callH rfl fun kC => ?_) | (refine qops_callH rfl fun kC => ?_) | (refine AWp.condB ?_) | (simp only [bse, wk, tys, storeH_ptr, Nat.reduceEqDiff, ↓reduceIte, reduceCtorEq, Nat.reduceAdd, Nat.reduceLeDiff, Int.reduceBEq, Int.reduceLT, Int.reduceLE, Int.reduceEq, ne_eq, not_false_eq_true, Nat.reduceMul, *]) | (refine condK_bool (fun hb => ?_) (fun hb => ?_) <;> ((try simp only [Bool.not_eq_true', Bool.not_eq_false'] at hb) <;> (try (have hbe := of_decide_eq_true hb)) <;> (try (have hbe := eq_of_beq hb)))) | (refine aops_partB ?_) | (refine qops_partB ?_))
  refine AWp.loopH [6, 7, 8, 9, 12, 13, 14, 15, 16, 17, 1, 10, 11, 5] (fun m e' H' => e' 5 = .int .i64 0 ∧ e' 1 = .int .i64 k ∧ H' = []) 0 ⟨rfl, rfl, rfl⟩ ?_
  rintro m e' H' hA ⟨h5, h1, rfl⟩ hJ
  have a0 := hA 0 rfl; have a4 := hA 4 rfl; try simp only [bse, wk, tys, storeH_ptr, Nat.reduceEqDiff, ↓reduceIte, reduceCtorEq, Nat.reduceAdd, Nat.reduceLeDiff, Int.reduceBEq, Int.reduceLT, Int.reduceLE, Int.reduceEq, ne_eq, not_false_eq_true, Nat.reduceMul] at a0 a4; clear hA
  have h00 : ¬ (0 : Int) < ((0 : Nat) : Int) := by decide
  repeat' (first | (refine KV.run _ ?_) | (refine KQ.run _ ?_) | (refine KT.run _ ?_) | (refine AWp.seqH fun KC => ?_) | (refine AWp.block ?_) | (refine AWp.region ?_) | (refine mops_step0 rfl rfl fun KC => ?_) | (refine mops_step1 rfl fun KC => ?_) | (refine mops_step2 rfl fun KC => ?_) | (refine AWp.ret ?_) | (refine AWp.skip ?_) | (refine AWp.exit ?_) | (refine aops_callH rfl fun kC => ?_) | (refine qops_callH rfl fun kC => ?_) | (refine AWp.condB ?_) | (simp only [bse, wk, tys, storeH_ptr, Nat.reduceEqDiff, ↓reduceIte, reduceCtorEq, Nat.reduceAdd, Nat.reduceLeDiff, Int.reduceBEq, Int.reduceLT, Int.reduceLE, Int.reduceEq, ne_eq, not_false_eq_true, Nat.reduceMul, *]) | (refine condK_bool (fun hb => ?_) (fun hb => ?_) <;> ((try simp only [Bool.not_eq_true', Bool.not_eq_false'] at hb) <;> (try (have hbe := of_decide_eq_true hb)) <;> (try (have hbe := eq_of_beq hb)))) | (refine aops_partB ?_) | (refine qops_partB ?_))
theorem mk_Int64S (xs : List Int) (hn : xs.length ≤ 1048576) : MCalls Try.prog 52 196 (islE intE xs) (xs.length) := by
  have := MCalls.ofSl (P := Try.prog) (f := 52) (g := 196) (E := intE) (xs := xs) (mk := fun k n => marksC k n) (fun _ _ => marksC_len _ _) (fun k n => marksC_flat k n) (intE_flat xs) laws_markInt64S0
    (fun H r ver el sz cs sp k hb hl hk hk2 => by
      simp only [intE_sz, Nat.mul_one] at hl ⊢
      exact laws_markInt64S 0 H r xs.length ver el sz cs true sp k hb hl (fun _ => rfl) (Nat.zero_le _) hk hk2 hn)
    (fun k hk hk2 => by
      simp only [intE_sz, Nat.mul_one]
      exact laws_heldInt64S xs.length k hk hk2 hn)
  simpa only [intE_sz, Nat.mul_one] using this

theorem nodeE_flat (ys : List TNode) : ∀ c ∈ nodeE.flat ys, flatV c = true := flatE_of (fun y c hc => by simp [nodeE, cellsV] at hc; (repeat' (first | (rcases hc with rfl | hc; · exact rfl) | (subst hc; exact rfl)))) ys
theorem own_toNodeS (xs : List TNode) (hn : xs.length ≤ 1048576) : NCalls Try.prog 38 [islE nodeE xs] (islE nodeE xs) :=
  (laws_toNodeS_own [] xs hn).mono fun d H' ⟨h1, h2⟩ => by
    subst h1 h2
    exact OwnL.sl1 (nodeE_flat xs)
theorem laws_markNodeS0 (k : Int) : PCalls Try.prog 43 [islE nodeE [], .int .i64 k] (.int .i64 k) := by
  refine PCalls.flat rfl ?_; refine ACalls.enter (n := 34) (rs := [.tmp 4]) Try.func43 rfl rfl rfl (by kernel_rfl) (by kernel_rfl) (by kernel_rfl) (Nat.le_of_ble_eq_true rfl) ?_
  repeat' (first | (refine KV.run _ ?_) | (refine KQ.run _ ?_) | (refine KT.run _ ?_) | (refine AWp.seqH fun KC => ?_) | (refine AWp.block ?_) | (refine AWp.region ?_) | (refine mops_step0 rfl rfl fun KC => ?_) | (refine mops_step1 rfl fun KC => ?_) | (refine mops_step2 rfl fun KC => ?_) | (refine AWp.ret ?_) | (refine AWp.skip ?_) | (refine AWp.exit ?_) | (refine aops_callH rfl fun kC => ?_) | (refine qops_callH rfl fun kC => ?_) | (refine AWp.condB ?_) | (simp only [bse, wk, tys, storeH_ptr, Nat.reduceEqDiff, ↓reduceIte, reduceCtorEq, Nat.reduceAdd, Nat.reduceLeDiff, Int.reduceBEq, Int.reduceLT, Int.reduceLE, Int.reduceEq, ne_eq, not_false_eq_true, Nat.reduceMul, *]) | (refine condK_bool (fun hb => ?_) (fun hb => ?_) <;> ((try simp only [Bool.not_eq_true', Bool.not_eq_false'] at hb) <;> (try (have hbe := of_decide_eq_true hb)) <;> (try (have hbe := eq_of_beq hb)))) | (refine aops_partB ?_) | (refine qops_partB ?_))
  refine AWp.loopH [6, 7, 8, 9, 12, 13, 14, 15, 16, 17, 18, 1, 19, 20, 21, 22, 23, 24, 25, 26, 27, 28, 29, 30, 31, 32, 10, 11, 5] (fun m e' H' => e' 5 = .int .i64 0 ∧ e' 1 = .int .i64 k ∧ H' = []) 0 ⟨rfl, rfl, rfl⟩ ?_
  rintro m e' H' hA ⟨h5, h1, rfl⟩ hJ
  have a0 := hA 0 rfl; have a4 := hA 4 rfl; try simp only [bse, wk, tys, storeH_ptr, Nat.reduceEqDiff, ↓reduceIte, reduceCtorEq, Nat.reduceAdd, Nat.reduceLeDiff, Int.reduceBEq, Int.reduceLT, Int.reduceLE, Int.reduceEq, ne_eq, not_false_eq_true, Nat.reduceMul] at a0 a4; clear hA
  have h00 : ¬ (0 : Int) < ((0 : Nat) : Int) := by decide
  repeat' (first | (refine KV.run _ ?_) | (refine KQ.run _ ?_) | (refine KT.run _ ?_) | (refine AWp.seqH fun KC => ?_) | (refine AWp.block ?_) | (refine AWp.region ?_) | (refine mops_step0 rfl rfl fun KC => ?_) | (refine mops_step1 rfl fun KC => ?_) | (refine mops_step2 rfl fun KC => ?_) | (refine AWp.ret ?_) | (refine AWp.skip ?_) | (refine AWp.exit ?_) | (refine aops_callH rfl fun kC => ?_) | (refine qops_callH rfl fun kC => ?_) | (refine AWp.condB ?_) | (simp only [bse, wk, tys, storeH_ptr, Nat.reduceEqDiff, ↓reduceIte, reduceCtorEq, Nat.reduceAdd, Nat.reduceLeDiff, Int.reduceBEq, Int.reduceLT, Int.reduceLE, Int.reduceEq, ne_eq, not_false_eq_true, Nat.reduceMul, *]) | (refine condK_bool (fun hb => ?_) (fun hb => ?_) <;> ((try simp only [Bool.not_eq_true', Bool.not_eq_false'] at hb) <;> (try (have hbe := of_decide_eq_true hb)) <;> (try (have hbe := eq_of_beq hb)))) | (refine aops_partB ?_) | (refine qops_partB ?_))
theorem mk_NodeS (xs : List TNode) (hn : xs.length ≤ 1048576) : MCalls Try.prog 43 206 (islE nodeE xs) (xs.length * 3) := by
  have := MCalls.ofSl (P := Try.prog) (f := 43) (g := 206) (E := nodeE) (xs := xs) (mk := fun k n => marksC k n) (fun _ _ => marksC_len _ _) (fun k n => marksC_flat k n) (nodeE_flat xs) laws_markNodeS0
    (fun H r ver el sz cs sp k hb hl hk hk2 => by
      simp only [nodeE_sz, Nat.mul_one] at hl ⊢
      exact laws_markNodeS 0 H r xs.length ver el sz cs true sp k hb hl (fun _ => rfl) (Nat.zero_le _) hk hk2 hn)
    (fun k hk hk2 => by
      simp only [nodeE_sz, Nat.mul_one]
      exact laws_heldNodeS xs.length k hk hk2 hn)
  simpa only [nodeE_sz, Nat.mul_one] using this

theorem choiceE_flat (ys : List TChoice) : ∀ c ∈ choiceE.flat ys, flatV c = true := flatE_of (fun y c hc => by simp [choiceE, cellsV] at hc; (repeat' (first | (rcases hc with rfl | hc; · exact rfl) | (subst hc; exact rfl)))) ys
theorem own_toChoiceS (xs : List TChoice) (hn : xs.length ≤ 1048576) : NCalls Try.prog 122 [islE choiceE xs] (islE choiceE xs) :=
  (laws_toChoiceS_own [] xs hn).mono fun d H' ⟨h1, h2⟩ => by
    subst h1 h2
    exact OwnL.sl1 (choiceE_flat xs)
theorem laws_markChoiceS0 (k : Int) : PCalls Try.prog 126 [islE choiceE [], .int .i64 k] (.int .i64 k) := by
  refine PCalls.flat rfl ?_; refine ACalls.enter (n := 36) (rs := [.tmp 4]) Try.func126 rfl rfl rfl (by kernel_rfl) (by kernel_rfl) (by kernel_rfl) (Nat.le_of_ble_eq_true rfl) ?_
  repeat' (first | (refine KV.run _ ?_) | (refine KQ.run _ ?_) | (refine KT.run _ ?_) | (refine AWp.seqH fun KC => ?_) | (refine AWp.block ?_) | (refine AWp.region ?_) | (refine mops_step0 rfl rfl fun KC => ?_) | (refine mops_step1 rfl fun KC => ?_) | (refine mops_step2 rfl fun KC => ?_) | (refine AWp.ret ?_) | (refine AWp.skip ?_) | (refine AWp.exit ?_) | (refine aops_callH rfl fun kC => ?_) | (refine qops_callH rfl fun kC => ?_) | (refine AWp.condB ?_) | (simp only [bse, wk, tys, storeH_ptr, Nat.reduceEqDiff, ↓reduceIte, reduceCtorEq, Nat.reduceAdd, Nat.reduceLeDiff, Int.reduceBEq, Int.reduceLT, Int.reduceLE, Int.reduceEq, ne_eq, not_false_eq_true, Nat.reduceMul, *]) | (refine condK_bool (fun hb => ?_) (fun hb => ?_) <;> ((try simp only [Bool.not_eq_true', Bool.not_eq_false'] at hb) <;> (try (have hbe := of_decide_eq_true hb)) <;> (try (have hbe := eq_of_beq hb)))) | (refine aops_partB ?_) | (refine qops_partB ?_))
  refine AWp.loopH [6, 7, 8, 9, 12, 13, 14, 15, 16, 17, 18, 19, 1, 20, 21, 22, 23, 24, 25, 26, 27, 28, 29, 30, 31, 32, 33, 34, 10, 11, 5] (fun m e' H' => e' 5 = .int .i64 0 ∧ e' 1 = .int .i64 k ∧ H' = []) 0 ⟨rfl, rfl, rfl⟩ ?_
  rintro m e' H' hA ⟨h5, h1, rfl⟩ hJ
  have a0 := hA 0 rfl; have a4 := hA 4 rfl; try simp only [bse, wk, tys, storeH_ptr, Nat.reduceEqDiff, ↓reduceIte, reduceCtorEq, Nat.reduceAdd, Nat.reduceLeDiff, Int.reduceBEq, Int.reduceLT, Int.reduceLE, Int.reduceEq, ne_eq, not_false_eq_true, Nat.reduceMul] at a0 a4; clear hA
  have h00 : ¬ (0 : Int) < ((0 : Nat) : Int) := by decide
  repeat' (first | (refine KV.run _ ?_) | (refine KQ.run _ ?_) | (refine KT.run _ ?_) | (refine AWp.seqH fun KC => ?_) | (refine AWp.block ?_) | (refine AWp.region ?_) | (refine mops_step0 rfl rfl fun KC => ?_) | (refine mops_step1 rfl fun KC => ?_) | (refine mops_step2 rfl fun KC => ?_) | (refine AWp.ret ?_) | (refine AWp.skip ?_) | (refine AWp.exit ?_) | (refine aops_callH rfl fun kC => ?_) | (refine qops_callH rfl fun kC => ?_) | (refine AWp.condB ?_) | (simp only [bse, wk, tys, storeH_ptr, Nat.reduceEqDiff, ↓reduceIte, reduceCtorEq, Nat.reduceAdd, Nat.reduceLeDiff, Int.reduceBEq, Int.reduceLT, Int.reduceLE, Int.reduceEq, ne_eq, not_false_eq_true, Nat.reduceMul, *]) | (refine condK_bool (fun hb => ?_) (fun hb => ?_) <;> ((try simp only [Bool.not_eq_true', Bool.not_eq_false'] at hb) <;> (try (have hbe := of_decide_eq_true hb)) <;> (try (have hbe := eq_of_beq hb)))) | (refine aops_partB ?_) | (refine qops_partB ?_))
theorem mk_ChoiceS (xs : List TChoice) (hn : xs.length ≤ 1048576) : MCalls Try.prog 126 189 (islE choiceE xs) (xs.length * 3) := by
  have := MCalls.ofSl (P := Try.prog) (f := 126) (g := 189) (E := choiceE) (xs := xs) (mk := fun k n => marksC k n) (fun _ _ => marksC_len _ _) (fun k n => marksC_flat k n) (choiceE_flat xs) laws_markChoiceS0
    (fun H r ver el sz cs sp k hb hl hk hk2 => by
      simp only [choiceE_sz, Nat.mul_one] at hl ⊢
      exact laws_markChoiceS 0 H r xs.length ver el sz cs true sp k hb hl (fun _ => rfl) (Nat.zero_le _) hk hk2 hn)
    (fun k hk hk2 => by
      simp only [choiceE_sz, Nat.mul_one]
      exact laws_heldChoiceS xs.length k hk hk2 hn)
  simpa only [choiceE_sz, Nat.mul_one] using this

theorem own_toStringS (xs : List ByteArray) (hn : xs.length ≤ 1048576) : NCalls Try.prog 92 [islE strE xs] (islE strE xs) :=
  (laws_toStringS_own [] xs hn).mono fun d H' ⟨h1, h2⟩ => by
    subst h1 h2
    exact OwnL.sl1 (strE_flat xs)
theorem laws_markStringS0 (k : Int) : PCalls Try.prog 101 [islE strE [], .int .i64 k] (.int .i64 k) := by
  refine PCalls.flat rfl ?_; refine ACalls.enter (n := 20) (rs := [.tmp 4]) Try.func101 rfl rfl rfl (by kernel_rfl) (by kernel_rfl) (by kernel_rfl) (Nat.le_of_ble_eq_true rfl) ?_
  repeat' (first | (refine KV.run _ ?_) | (refine KQ.run _ ?_) | (refine KT.run _ ?_) | (refine AWp.seqH fun KC => ?_) | (refine AWp.block ?_) | (refine AWp.region ?_) | (refine mops_step0 rfl rfl fun KC => ?_) | (refine mops_step1 rfl fun KC => ?_) | (refine mops_step2 rfl fun KC => ?_) | (refine AWp.ret ?_) | (refine AWp.skip ?_) | (refine AWp.exit ?_) | (refine aops_callH rfl fun kC => ?_) | (refine qops_callH rfl fun kC => ?_) | (refine AWp.condB ?_) | (simp only [bse, wk, tys, storeH_ptr, Nat.reduceEqDiff, ↓reduceIte, reduceCtorEq, Nat.reduceAdd, Nat.reduceLeDiff, Int.reduceBEq, Int.reduceLT, Int.reduceLE, Int.reduceEq, ne_eq, not_false_eq_true, Nat.reduceMul, *]) | (refine condK_bool (fun hb => ?_) (fun hb => ?_) <;> ((try simp only [Bool.not_eq_true', Bool.not_eq_false'] at hb) <;> (try (have hbe := of_decide_eq_true hb)) <;> (try (have hbe := eq_of_beq hb)))) | (refine aops_partB ?_) | (refine qops_partB ?_))
  refine AWp.loopH [6, 7, 8, 9, 12, 13, 14, 15, 16, 17, 18, 1, 10, 11, 5] (fun m e' H' => e' 5 = .int .i64 0 ∧ e' 1 = .int .i64 k ∧ H' = []) 0 ⟨rfl, rfl, rfl⟩ ?_
  rintro m e' H' hA ⟨h5, h1, rfl⟩ hJ
  have a0 := hA 0 rfl; have a4 := hA 4 rfl; try simp only [bse, wk, tys, storeH_ptr, Nat.reduceEqDiff, ↓reduceIte, reduceCtorEq, Nat.reduceAdd, Nat.reduceLeDiff, Int.reduceBEq, Int.reduceLT, Int.reduceLE, Int.reduceEq, ne_eq, not_false_eq_true, Nat.reduceMul] at a0 a4; clear hA
  have h00 : ¬ (0 : Int) < ((0 : Nat) : Int) := by decide
  repeat' (first | (refine KV.run _ ?_) | (refine KQ.run _ ?_) | (refine KT.run _ ?_) | (refine AWp.seqH fun KC => ?_) | (refine AWp.block ?_) | (refine AWp.region ?_) | (refine mops_step0 rfl rfl fun KC => ?_) | (refine mops_step1 rfl fun KC => ?_) | (refine mops_step2 rfl fun KC => ?_) | (refine AWp.ret ?_) | (refine AWp.skip ?_) | (refine AWp.exit ?_) | (refine aops_callH rfl fun kC => ?_) | (refine qops_callH rfl fun kC => ?_) | (refine AWp.condB ?_) | (simp only [bse, wk, tys, storeH_ptr, Nat.reduceEqDiff, ↓reduceIte, reduceCtorEq, Nat.reduceAdd, Nat.reduceLeDiff, Int.reduceBEq, Int.reduceLT, Int.reduceLE, Int.reduceEq, ne_eq, not_false_eq_true, Nat.reduceMul, *]) | (refine condK_bool (fun hb => ?_) (fun hb => ?_) <;> ((try simp only [Bool.not_eq_true', Bool.not_eq_false'] at hb) <;> (try (have hbe := of_decide_eq_true hb)) <;> (try (have hbe := eq_of_beq hb)))) | (refine aops_partB ?_) | (refine qops_partB ?_))
theorem mk_StringS (xs : List ByteArray) (hn : xs.length ≤ 1048576) : MCalls Try.prog 101 175 (islE strE xs) (xs.length) := by
  have := MCalls.ofSl (P := Try.prog) (f := 101) (g := 175) (E := strE) (xs := xs) (mk := fun k n => marksS mt k n) (fun _ _ => marksS_len _ _ _) (fun k n => marksS_flat _ k n) (strE_flat xs) laws_markStringS0
    (fun H r ver el sz cs sp k hb hl hk hk2 => by
      simp only [strE_sz, Nat.mul_one] at hl ⊢
      exact laws_markStringS 0 H r xs.length ver el sz cs true sp k hb hl (fun _ => rfl) (Nat.zero_le _) hk hk2 hn)
    (fun k hk hk2 => by
      simp only [strE_sz, Nat.mul_one]
      exact laws_heldStringS xs.length k hk hk2 hn)
  simpa only [strE_sz, Nat.mul_one] using this

theorem signE_flat (ys : List TSign) : ∀ c ∈ signE.flat ys, flatV c = true := flatE_of (fun y c hc => by simp [signE, cellsV] at hc; (repeat' (first | (rcases hc with rfl | hc; · exact rfl) | (subst hc; exact rfl)))) ys
theorem own_toSignS (xs : List TSign) (hn : xs.length ≤ 1048576) : NCalls Try.prog 93 [islE signE xs] (islE signE xs) :=
  (laws_toSignS_own [] xs hn).mono fun d H' ⟨h1, h2⟩ => by
    subst h1 h2
    exact OwnL.sl1 (signE_flat xs)
theorem laws_markSignS0 (k : Int) : PCalls Try.prog 102 [islE signE [], .int .i64 k] (.int .i64 k) := by
  refine PCalls.flat rfl ?_; refine ACalls.enter (n := 27) (rs := [.tmp 4]) Try.func102 rfl rfl rfl (by kernel_rfl) (by kernel_rfl) (by kernel_rfl) (Nat.le_of_ble_eq_true rfl) ?_
  repeat' (first | (refine KV.run _ ?_) | (refine KQ.run _ ?_) | (refine KT.run _ ?_) | (refine AWp.seqH fun KC => ?_) | (refine AWp.block ?_) | (refine AWp.region ?_) | (refine mops_step0 rfl rfl fun KC => ?_) | (refine mops_step1 rfl fun KC => ?_) | (refine mops_step2 rfl fun KC => ?_) | (refine AWp.ret ?_) | (refine AWp.skip ?_) | (refine AWp.exit ?_) | (refine aops_callH rfl fun kC => ?_) | (refine qops_callH rfl fun kC => ?_) | (refine AWp.condB ?_) | (simp only [bse, wk, tys, storeH_ptr, Nat.reduceEqDiff, ↓reduceIte, reduceCtorEq, Nat.reduceAdd, Nat.reduceLeDiff, Int.reduceBEq, Int.reduceLT, Int.reduceLE, Int.reduceEq, ne_eq, not_false_eq_true, Nat.reduceMul, *]) | (refine condK_bool (fun hb => ?_) (fun hb => ?_) <;> ((try simp only [Bool.not_eq_true', Bool.not_eq_false'] at hb) <;> (try (have hbe := of_decide_eq_true hb)) <;> (try (have hbe := eq_of_beq hb)))) | (refine aops_partB ?_) | (refine qops_partB ?_))
  refine AWp.loopH [6, 7, 8, 9, 12, 13, 14, 15, 16, 17, 18, 1, 19, 20, 21, 22, 23, 24, 25, 10, 11, 5] (fun m e' H' => e' 5 = .int .i64 0 ∧ e' 1 = .int .i64 k ∧ H' = []) 0 ⟨rfl, rfl, rfl⟩ ?_
  rintro m e' H' hA ⟨h5, h1, rfl⟩ hJ
  have a0 := hA 0 rfl; have a4 := hA 4 rfl; try simp only [bse, wk, tys, storeH_ptr, Nat.reduceEqDiff, ↓reduceIte, reduceCtorEq, Nat.reduceAdd, Nat.reduceLeDiff, Int.reduceBEq, Int.reduceLT, Int.reduceLE, Int.reduceEq, ne_eq, not_false_eq_true, Nat.reduceMul] at a0 a4; clear hA
  have h00 : ¬ (0 : Int) < ((0 : Nat) : Int) := by decide
  repeat' (first | (refine KV.run _ ?_) | (refine KQ.run _ ?_) | (refine KT.run _ ?_) | (refine AWp.seqH fun KC => ?_) | (refine AWp.block ?_) | (refine AWp.region ?_) | (refine mops_step0 rfl rfl fun KC => ?_) | (refine mops_step1 rfl fun KC => ?_) | (refine mops_step2 rfl fun KC => ?_) | (refine AWp.ret ?_) | (refine AWp.skip ?_) | (refine AWp.exit ?_) | (refine aops_callH rfl fun kC => ?_) | (refine qops_callH rfl fun kC => ?_) | (refine AWp.condB ?_) | (simp only [bse, wk, tys, storeH_ptr, Nat.reduceEqDiff, ↓reduceIte, reduceCtorEq, Nat.reduceAdd, Nat.reduceLeDiff, Int.reduceBEq, Int.reduceLT, Int.reduceLE, Int.reduceEq, ne_eq, not_false_eq_true, Nat.reduceMul, *]) | (refine condK_bool (fun hb => ?_) (fun hb => ?_) <;> ((try simp only [Bool.not_eq_true', Bool.not_eq_false'] at hb) <;> (try (have hbe := of_decide_eq_true hb)) <;> (try (have hbe := eq_of_beq hb)))) | (refine aops_partB ?_) | (refine qops_partB ?_))
theorem mk_SignS (xs : List TSign) (hn : xs.length ≤ 1048576) : MCalls Try.prog 102 176 (islE signE xs) (xs.length * 2) := by
  have := MCalls.ofSl (P := Try.prog) (f := 102) (g := 176) (E := signE) (xs := xs) (mk := fun k n => marksC k n) (fun _ _ => marksC_len _ _) (fun k n => marksC_flat k n) (signE_flat xs) laws_markSignS0
    (fun H r ver el sz cs sp k hb hl hk hk2 => by
      simp only [signE_sz, Nat.mul_one] at hl ⊢
      exact laws_markSignS 0 H r xs.length ver el sz cs true sp k hb hl (fun _ => rfl) (Nat.zero_le _) hk hk2 hn)
    (fun k hk hk2 => by
      simp only [signE_sz, Nat.mul_one]
      exact laws_heldSignS xs.length k hk hk2 hn)
  simpa only [signE_sz, Nat.mul_one] using this

end Go.BM
