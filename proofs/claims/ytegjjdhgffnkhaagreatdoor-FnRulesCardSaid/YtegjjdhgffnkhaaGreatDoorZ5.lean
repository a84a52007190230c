/- Packed: T15, T22, K15, K21, K23, K24, K16. -/
import Derived.Lib.ConvBytes
import Derived.Lib.SlBytesRow
import Derived.Lib.SmallJoins
import Derived.Sort.WalkA
import Derived.WalkSmall
import Derived.Test.YtegjjdhgffnkhaaGreatDoorProg
import Derived.Test.YtegjjdhgffnkhaaGreatDoorZ2
import Derived.Test.YtegjjdhgffnkhaaGreatDoorZ3
import Derived.Test.YtegjjdhgffnkhaaGreatDoorZ4
/- TextOf: both sides. -/
set_option linter.unusedVariables false
set_option linter.unusedSimpArgs false
set_option maxRecDepth 100000
set_option maxHeartbeats 4000000
namespace Go.BM
open Go.Proofs Go.RowKit
attribute [local irreducible] ACalls AWp aops qops optK optP cK gateA condK mops qcallK PCalls loadV fldV idxV lenV slV storeH binS
theorem impl_isInL (l : TLedger) (id : Int) : PCalls Tryz.prog 22 [ledgerE.val l, .int .i64 id] (.bool (inB id 1 l.texts.length)) := by
  refine PCalls.flat rfl ?_; refine ACalls.enter (n := 10) (rs := [.tmp 4]) Tryz.func22 rfl rfl rfl (by kernel_rfl) (by kernel_rfl) (by kernel_rfl) (Nat.le_of_ble_eq_true rfl) ?_
  repeat' (first | (refine ACalls.start ?_; first | (refine ACalls.ofJi (impl_within _ _ _) rfl ?_)) | (refine qcall_start ?_; first | (refine qcallFi (impl_within _ _ _) rfl ?_ ?_; (focus ((first | exact rfl | (simp [pureV, flatV, signE_val, signE_sz, ledgerE_val, ledgerE_sz, textResultE_val, textResultE_sz]; done)))))) | (refine KV.run _ ?_) | (refine KQ.run _ ?_) | (refine KT.run _ ?_) | (refine AWp.seqH fun KC => ?_) | (refine AWp.block ?_) | (refine AWp.region ?_) | (refine mops_step0 rfl rfl fun KC => ?_) | (refine mops_step1 rfl fun KC => ?_) | (refine mops_step2 rfl fun KC => ?_) | (refine AWp.ret ?_) | (refine AWp.skip ?_) | (refine AWp.exit ?_) | (refine aops_callH rfl fun kC => ?_) | (refine qops_callH rfl fun kC => ?_) | (refine AWp.condB ?_) | (simp only [bse, wk, tys, storeH_ptr, Nat.reduceEqDiff, ↓reduceIte, reduceCtorEq, Nat.reduceAdd, Nat.reduceLeDiff, Int.reduceBEq, Int.reduceLT, Int.reduceLE, Int.reduceEq, ne_eq, not_false_eq_true, Nat.reduceMul, signE_val, signE_sz, ledgerE_val, ledgerE_sz, textResultE_val, textResultE_sz, *]) | (refine condK_bool (fun hb => ?_) (fun hb => ?_) <;> ((try simp only [Bool.not_eq_true', Bool.not_eq_false'] at hb) <;> (try (have hbe := of_decide_eq_true hb)) <;> (try (have hbe := eq_of_beq hb)))) | (refine aops_partB ?_) | (refine qops_partB ?_))
theorem spec_l1Id (l : TLedger) (id : Int) : PCalls Tryz.prog 27 [ip [islE strE l.texts, islE signE l.signs], .int .i64 id] (.bool (inB id 1 l.texts.length)) := by
  refine PCalls.flat rfl ?_; refine ACalls.enter (n := 12) (rs := [.tmp 4]) Tryz.func27 rfl rfl rfl (by kernel_rfl) (by kernel_rfl) (by kernel_rfl) (Nat.le_of_ble_eq_true rfl) ?_
  repeat' (first | (refine ACalls.start ?_; first | (refine ACalls.ofJi (spec_l1In _ _ _) rfl ?_)) | (refine qcall_start ?_; first | (refine qcallFi (spec_l1In _ _ _) rfl ?_ ?_; (focus ((first | exact rfl | (simp [pureV, flatV, signE_val, signE_sz, ledgerE_val, ledgerE_sz, textResultE_val, textResultE_sz]; done)))))) | (refine KV.run _ ?_) | (refine KQ.run _ ?_) | (refine KT.run _ ?_) | (refine AWp.seqH fun KC => ?_) | (refine AWp.block ?_) | (refine AWp.region ?_) | (refine mops_step0 rfl rfl fun KC => ?_) | (refine mops_step1 rfl fun KC => ?_) | (refine mops_step2 rfl fun KC => ?_) | (refine AWp.ret ?_) | (refine AWp.skip ?_) | (refine AWp.exit ?_) | (refine aops_callH rfl fun kC => ?_) | (refine qops_callH rfl fun kC => ?_) | (refine AWp.condB ?_) | (simp only [bse, wk, tys, storeH_ptr, Nat.reduceEqDiff, ↓reduceIte, reduceCtorEq, Nat.reduceAdd, Nat.reduceLeDiff, Int.reduceBEq, Int.reduceLT, Int.reduceLE, Int.reduceEq, ne_eq, not_false_eq_true, Nat.reduceMul, signE_val, signE_sz, ledgerE_val, ledgerE_sz, textResultE_val, textResultE_sz, *]) | (refine condK_bool (fun hb => ?_) (fun hb => ?_) <;> ((try simp only [Bool.not_eq_true', Bool.not_eq_false'] at hb) <;> (try (have hbe := of_decide_eq_true hb)) <;> (try (have hbe := eq_of_beq hb)))) | (refine aops_partB ?_) | (refine qops_partB ?_))
end Go.BM
/- RuleMet: both sides. -/
set_option linter.unusedVariables false
set_option linter.unusedSimpArgs false
set_option maxRecDepth 100000
set_option maxHeartbeats 4000000
namespace Go.BM
open Go.Proofs Go.RowKit
attribute [local irreducible] ACalls AWp aops qops optK optP cK gateA condK mops qcallK PCalls loadV fldV idxV lenV slV storeH binS
def ruleFault (xs : List Int) (need after : Int) : Int := if !inB xs.length 1 3 then 2 else if !keysB xs || !inB need 1 xs.length || !inB after 0 999 then 3 else if !risB xs then 1 else 0
theorem impl_isHeight (a : Int) : PCalls Tryz.prog 23 [.int .i64 a] (.bool (inB a 0 999)) := by
  refine PCalls.flat rfl ?_; refine ACalls.enter (n := 5) (rs := [.tmp 2]) Tryz.func23 rfl rfl rfl (by kernel_rfl) (by kernel_rfl) (by kernel_rfl) (Nat.le_of_ble_eq_true rfl) ?_
  repeat' (first | (refine ACalls.start ?_; first | (refine ACalls.ofJi (impl_within _ _ _) rfl ?_)) | (refine KV.run _ ?_) | (refine KT.run _ ?_) | (refine AWp.seqH fun KC => ?_) | (refine AWp.region ?_) | (refine AWp.ret ?_) | (refine aops_callH rfl fun kC => ?_) | (simp only [bse, wk, tys, storeH_ptr, Nat.reduceEqDiff, ↓reduceIte, reduceCtorEq, Nat.reduceAdd, Nat.reduceLeDiff, Int.reduceBEq, Int.reduceLT, Int.reduceLE, Int.reduceEq, ne_eq, not_false_eq_true, Nat.reduceMul, ruleE_val, ruleE_sz, signE_val, signE_sz, ledgerE_val, ledgerE_sz, *]))
theorem spec_l2Height (a : Int) : PCalls Tryz.prog 28 [.int .i64 a] (.bool (inB a 0 999)) := by
  refine PCalls.flat rfl ?_; refine ACalls.enter (n := 5) (rs := [.tmp 2]) Tryz.func28 rfl rfl rfl (by kernel_rfl) (by kernel_rfl) (by kernel_rfl) (Nat.le_of_ble_eq_true rfl) ?_
  repeat' (first | (refine ACalls.start ?_; first | (refine ACalls.ofJi (spec_l1In _ _ _) rfl ?_)) | (refine KV.run _ ?_) | (refine KT.run _ ?_) | (refine AWp.seqH fun KC => ?_) | (refine AWp.region ?_) | (refine AWp.ret ?_) | (refine aops_callH rfl fun kC => ?_) | (simp only [bse, wk, tys, storeH_ptr, Nat.reduceEqDiff, ↓reduceIte, reduceCtorEq, Nat.reduceAdd, Nat.reduceLeDiff, Int.reduceBEq, Int.reduceLT, Int.reduceLE, Int.reduceEq, ne_eq, not_false_eq_true, Nat.reduceMul, ruleE_val, ruleE_sz, signE_val, signE_sz, ledgerE_val, ledgerE_sz, *]))
theorem impl_RuleFault (r : TRule) (hn : r.keys.length ≤ 1000000000000) : PCalls Tryz.prog 12 [ruleE.val r] (.int .i64 (ruleFault r.keys r.need r.after)) := by
  refine PCalls.flat rfl ?_; refine ACalls.enter (n := 34) (rs := [.tmp 2]) Tryz.func12 rfl rfl rfl (by kernel_rfl) (by kernel_rfl) (by kernel_rfl) (Nat.le_of_ble_eq_true rfl) ?_
  repeat' (first | (refine ACalls.start ?_; first | (refine ACalls.ofJi (impl_within _ _ _) rfl ?_) | (refine ACalls.ofJi (impl_areKeys r.keys (by omega)) rfl ?_) | (refine ACalls.ofJi (impl_isRising r.keys (by omega)) rfl ?_) | (refine ACalls.ofJi (impl_isHeight _) rfl ?_)) | (refine KV.run _ ?_) | (refine KT.run _ ?_) | (refine AWp.seqH fun KC => ?_) | (refine AWp.block ?_) | (refine AWp.region ?_) | (refine AWp.ret ?_) | (refine AWp.skip ?_) | (refine aops_callH rfl fun kC => ?_) | (refine AWp.condB ?_) | (simp only [bse, wk, tys, storeH_ptr, Nat.reduceEqDiff, ↓reduceIte, reduceCtorEq, Nat.reduceAdd, Nat.reduceLeDiff, Int.reduceBEq, Int.reduceLT, Int.reduceLE, Int.reduceEq, ne_eq, not_false_eq_true, Nat.reduceMul, ruleE_val, ruleE_sz, signE_val, signE_sz, ledgerE_val, ledgerE_sz, *]) | (refine condK_bool (fun hb => ?_) (fun hb => ?_) <;> ((try simp only [Bool.not_eq_true', Bool.not_eq_false'] at hb) <;> (try (have hbe := of_decide_eq_true hb)) <;> (try (have hbe := eq_of_beq hb)))) | (refine aops_partB ?_))
  all_goals (first | rfl | (simp only [ruleFault, bse, wk, tys, storeH_ptr, Nat.reduceEqDiff, ↓reduceIte, reduceCtorEq, Nat.reduceAdd, Nat.reduceLeDiff, Int.reduceBEq, Int.reduceLT, Int.reduceLE, Int.reduceEq, ne_eq, not_false_eq_true, Nat.reduceMul, ruleE_val, ruleE_sz, signE_val, signE_sz, ledgerE_val, ledgerE_sz, if_true, if_false, ite_true, ite_false, Bool.false_eq_true, *]; done) | (simp [ruleFault, *]; done) | (simp_all [ruleFault]; done) | (simp_all [ruleFault]; (repeat' split) <;> first | rfl | omega))
theorem spec_l2Fault (xs : List Int) (need after : Int) (hn : xs.length ≤ 1000000000000) : PCalls Tryz.prog 26 [ip [islE intE xs, .int .i64 need, .int .i64 after]] (.int .i64 (ruleFault xs need after)) := by
  cases hin : inB xs.length 1 3 with
  | false =>
    have hq : ruleFault xs need after = 2 := by simp [ruleFault, hin]
    rw [hq]
    refine PCalls.flat rfl ?_; refine ACalls.enter (n := 72) (rs := [.tmp 2]) Tryz.func26 rfl rfl rfl (by kernel_rfl) (by kernel_rfl) (by kernel_rfl) (Nat.le_of_ble_eq_true rfl) ?_
    repeat' (first | (refine ACalls.start ?_; first | (refine ACalls.ofJi (spec_l1In _ _ _) rfl ?_)) | (refine KV.run _ ?_) | (refine KT.run _ ?_) | (refine AWp.seqH fun KC => ?_) | (refine AWp.region ?_) | (refine AWp.ret ?_) | (refine aops_callH rfl fun kC => ?_) | (refine AWp.condB ?_) | (simp only [bse, wk, tys, storeH_ptr, Nat.reduceEqDiff, ↓reduceIte, reduceCtorEq, Nat.reduceAdd, Nat.reduceLeDiff, Int.reduceBEq, Int.reduceLT, Int.reduceLE, Int.reduceEq, ne_eq, not_false_eq_true, Nat.reduceMul, ruleE_val, ruleE_sz, signE_val, signE_sz, ledgerE_val, ledgerE_sz, *]))
  | true =>
    cases hneed : inB need 1 xs.length with
    | false =>
      have hq : ruleFault xs need after = 3 := by simp [ruleFault, hin, hneed]
      rw [hq]
      refine PCalls.flat rfl ?_; refine ACalls.enter (n := 72) (rs := [.tmp 2]) Tryz.func26 rfl rfl rfl (by kernel_rfl) (by kernel_rfl) (by kernel_rfl) (Nat.le_of_ble_eq_true rfl) ?_
      repeat' (first | (refine ACalls.start ?_; first | (refine ACalls.ofJi (spec_l1In _ _ _) rfl ?_)) | (refine KV.run _ ?_) | (refine KT.run _ ?_) | (refine AWp.seqH fun KC => ?_) | (refine AWp.block ?_) | (refine AWp.region ?_) | (refine AWp.skip ?_) | (refine aops_callH rfl fun kC => ?_) | (refine AWp.condB ?_) | (simp only [bse, wk, tys, storeH_ptr, Nat.reduceEqDiff, ↓reduceIte, reduceCtorEq, Nat.reduceAdd, Nat.reduceLeDiff, Int.reduceBEq, Int.reduceLT, Int.reduceLE, Int.reduceEq, ne_eq, not_false_eq_true, Nat.reduceMul, ruleE_val, ruleE_sz, signE_val, signE_sz, ledgerE_val, ledgerE_sz, *]))
      refine AWp.loopH [14, 15, 16, 17, 18, 19, 20, 23, 24, 25, 26, 27, 28, 29, 30, 31, 2, 21, 22, 4] (fun m e' H' => ∃ k : Nat, k ≤ xs.length ∧ m = xs.length - k ∧ e' 4 = .int .i64 k ∧ H' = []) xs.length ⟨0, by omega, by omega, rfl, rfl⟩ ?_
      rintro m e' H' hA ⟨k, hk, rfl, h4, rfl⟩ hJ
      have a0 := hA 0 rfl; have a3 := hA 3 rfl; try simp only [bse, wk, tys, storeH_ptr, Nat.reduceEqDiff, ↓reduceIte, reduceCtorEq, Nat.reduceAdd, Nat.reduceLeDiff, Int.reduceBEq, Int.reduceLT, Int.reduceLE, Int.reduceEq, ne_eq, not_false_eq_true, Nat.reduceMul] at a0 a3; clear hA
      by_cases hlt : k < xs.length
      · have hlt' : (k : Int) < (xs.length : Int) := by omega
        have hw := wr_succ (k := k) (by omega)
        cases hx : inB xs[k] 1 999 with
        | true =>
          repeat' (first | (refine ACalls.start ?_; first | (refine ACalls.ofJi (spec_l1Key _) rfl ?_)) | (refine KV.run _ ?_) | (refine KT.run _ ?_) | (refine AWp.seqH fun KC => ?_) | (refine AWp.block ?_) | (refine AWp.region ?_) | (refine AWp.skip ?_) | (refine aops_callH rfl fun kC => ?_) | (refine AWp.condB ?_) | (simp only [bse, wk, tys, storeH_ptr, Nat.reduceEqDiff, ↓reduceIte, reduceCtorEq, Nat.reduceAdd, Nat.reduceLeDiff, Int.reduceBEq, Int.reduceLT, Int.reduceLE, Int.reduceEq, ne_eq, not_false_eq_true, Nat.reduceMul, ruleE_val, ruleE_sz, signE_val, signE_sz, ledgerE_val, ledgerE_sz, *]))
          exact hJ.out _ _ ⟨xs.length - (k + 1), by omega, k + 1, by omega, rfl, rfl, rfl⟩ (by repeat (first | exact Agree.refl _ _ | assumption | refine Agree.put ?_ rfl _))
        | false =>
          repeat' (first | (refine ACalls.start ?_; first | (refine ACalls.ofJi (spec_l1Key _) rfl ?_)) | (refine KV.run _ ?_) | (refine KT.run _ ?_) | (refine AWp.seqH fun KC => ?_) | (refine AWp.block ?_) | (refine AWp.region ?_) | (refine AWp.ret ?_) | (refine AWp.skip ?_) | (refine aops_callH rfl fun kC => ?_) | (refine AWp.condB ?_) | (simp only [bse, wk, tys, storeH_ptr, Nat.reduceEqDiff, ↓reduceIte, reduceCtorEq, Nat.reduceAdd, Nat.reduceLeDiff, Int.reduceBEq, Int.reduceLT, Int.reduceLE, Int.reduceEq, ne_eq, not_false_eq_true, Nat.reduceMul, ruleE_val, ruleE_sz, signE_val, signE_sz, ledgerE_val, ledgerE_sz, *]))
      · have hlt' : ¬ (k : Int) < (xs.length : Int) := by omega
        repeat' (first | (refine ACalls.start ?_; first | (refine ACalls.ofJi (spec_l1In _ _ _) rfl ?_)) | (refine KV.run _ ?_) | (refine KT.run _ ?_) | (refine AWp.seqH fun KC => ?_) | (refine AWp.region ?_) | (refine AWp.ret ?_) | (refine AWp.exit ?_) | (refine aops_callH rfl fun kC => ?_) | (refine AWp.condB ?_) | (simp only [bse, wk, tys, storeH_ptr, Nat.reduceEqDiff, ↓reduceIte, reduceCtorEq, Nat.reduceAdd, Nat.reduceLeDiff, Int.reduceBEq, Int.reduceLT, Int.reduceLE, Int.reduceEq, ne_eq, not_false_eq_true, Nat.reduceMul, ruleE_val, ruleE_sz, signE_val, signE_sz, ledgerE_val, ledgerE_sz, *]))
    | true =>
      cases haft : inB after 0 999 with
      | false =>
        have hq : ruleFault xs need after = 3 := by simp [ruleFault, hin, hneed, haft]
        rw [hq]
        refine PCalls.flat rfl ?_; refine ACalls.enter (n := 72) (rs := [.tmp 2]) Tryz.func26 rfl rfl rfl (by kernel_rfl) (by kernel_rfl) (by kernel_rfl) (Nat.le_of_ble_eq_true rfl) ?_
        repeat' (first | (refine ACalls.start ?_; first | (refine ACalls.ofJi (spec_l1In _ _ _) rfl ?_)) | (refine KV.run _ ?_) | (refine KT.run _ ?_) | (refine AWp.seqH fun KC => ?_) | (refine AWp.block ?_) | (refine AWp.region ?_) | (refine AWp.skip ?_) | (refine aops_callH rfl fun kC => ?_) | (refine AWp.condB ?_) | (simp only [bse, wk, tys, storeH_ptr, Nat.reduceEqDiff, ↓reduceIte, reduceCtorEq, Nat.reduceAdd, Nat.reduceLeDiff, Int.reduceBEq, Int.reduceLT, Int.reduceLE, Int.reduceEq, ne_eq, not_false_eq_true, Nat.reduceMul, ruleE_val, ruleE_sz, signE_val, signE_sz, ledgerE_val, ledgerE_sz, *]))
        refine AWp.loopH [14, 15, 16, 17, 18, 19, 20, 23, 24, 25, 26, 27, 28, 29, 30, 31, 2, 21, 22, 4] (fun m e' H' => ∃ k : Nat, k ≤ xs.length ∧ m = xs.length - k ∧ e' 4 = .int .i64 k ∧ H' = []) xs.length ⟨0, by omega, by omega, rfl, rfl⟩ ?_
        rintro m e' H' hA ⟨k, hk, rfl, h4, rfl⟩ hJ
        have a0 := hA 0 rfl; have a3 := hA 3 rfl; try simp only [bse, wk, tys, storeH_ptr, Nat.reduceEqDiff, ↓reduceIte, reduceCtorEq, Nat.reduceAdd, Nat.reduceLeDiff, Int.reduceBEq, Int.reduceLT, Int.reduceLE, Int.reduceEq, ne_eq, not_false_eq_true, Nat.reduceMul] at a0 a3; clear hA
        by_cases hlt : k < xs.length
        · have hlt' : (k : Int) < (xs.length : Int) := by omega
          have hw := wr_succ (k := k) (by omega)
          cases hx : inB xs[k] 1 999 with
          | true =>
            repeat' (first | (refine ACalls.start ?_; first | (refine ACalls.ofJi (spec_l1Key _) rfl ?_)) | (refine KV.run _ ?_) | (refine KT.run _ ?_) | (refine AWp.seqH fun KC => ?_) | (refine AWp.block ?_) | (refine AWp.region ?_) | (refine AWp.skip ?_) | (refine aops_callH rfl fun kC => ?_) | (refine AWp.condB ?_) | (simp only [bse, wk, tys, storeH_ptr, Nat.reduceEqDiff, ↓reduceIte, reduceCtorEq, Nat.reduceAdd, Nat.reduceLeDiff, Int.reduceBEq, Int.reduceLT, Int.reduceLE, Int.reduceEq, ne_eq, not_false_eq_true, Nat.reduceMul, ruleE_val, ruleE_sz, signE_val, signE_sz, ledgerE_val, ledgerE_sz, *]))
            exact hJ.out _ _ ⟨xs.length - (k + 1), by omega, k + 1, by omega, rfl, rfl, rfl⟩ (by repeat (first | exact Agree.refl _ _ | assumption | refine Agree.put ?_ rfl _))
          | false =>
            repeat' (first | (refine ACalls.start ?_; first | (refine ACalls.ofJi (spec_l1Key _) rfl ?_)) | (refine KV.run _ ?_) | (refine KT.run _ ?_) | (refine AWp.seqH fun KC => ?_) | (refine AWp.block ?_) | (refine AWp.region ?_) | (refine AWp.ret ?_) | (refine AWp.skip ?_) | (refine aops_callH rfl fun kC => ?_) | (refine AWp.condB ?_) | (simp only [bse, wk, tys, storeH_ptr, Nat.reduceEqDiff, ↓reduceIte, reduceCtorEq, Nat.reduceAdd, Nat.reduceLeDiff, Int.reduceBEq, Int.reduceLT, Int.reduceLE, Int.reduceEq, ne_eq, not_false_eq_true, Nat.reduceMul, ruleE_val, ruleE_sz, signE_val, signE_sz, ledgerE_val, ledgerE_sz, *]))
        · have hlt' : ¬ (k : Int) < (xs.length : Int) := by omega
          repeat' (first | (refine ACalls.start ?_; first | (refine ACalls.ofJi (spec_l1In _ _ _) rfl ?_) | (refine ACalls.ofJi (spec_l2Height _) rfl ?_)) | (refine KV.run _ ?_) | (refine KT.run _ ?_) | (refine AWp.seqH fun KC => ?_) | (refine AWp.region ?_) | (refine AWp.ret ?_) | (refine AWp.exit ?_) | (refine aops_callH rfl fun kC => ?_) | (refine AWp.condB ?_) | (simp only [bse, wk, tys, storeH_ptr, Nat.reduceEqDiff, ↓reduceIte, reduceCtorEq, Nat.reduceAdd, Nat.reduceLeDiff, Int.reduceBEq, Int.reduceLT, Int.reduceLE, Int.reduceEq, ne_eq, not_false_eq_true, Nat.reduceMul, ruleE_val, ruleE_sz, signE_val, signE_sz, ledgerE_val, ledgerE_sz, *]))
      | true =>
        refine PCalls.flat rfl ?_; refine ACalls.enter (n := 72) (rs := [.tmp 2]) Tryz.func26 rfl rfl rfl (by kernel_rfl) (by kernel_rfl) (by kernel_rfl) (Nat.le_of_ble_eq_true rfl) ?_
        repeat' (first | (refine ACalls.start ?_; first | (refine ACalls.ofJi (spec_l1In _ _ _) rfl ?_)) | (refine KV.run _ ?_) | (refine KT.run _ ?_) | (refine AWp.seqH fun KC => ?_) | (refine AWp.block ?_) | (refine AWp.region ?_) | (refine AWp.skip ?_) | (refine aops_callH rfl fun kC => ?_) | (refine AWp.condB ?_) | (simp only [bse, wk, tys, storeH_ptr, Nat.reduceEqDiff, ↓reduceIte, reduceCtorEq, Nat.reduceAdd, Nat.reduceLeDiff, Int.reduceBEq, Int.reduceLT, Int.reduceLE, Int.reduceEq, ne_eq, not_false_eq_true, Nat.reduceMul, ruleE_val, ruleE_sz, signE_val, signE_sz, ledgerE_val, ledgerE_sz, *]))
        refine AWp.loopH [14, 15, 16, 17, 18, 19, 20, 23, 24, 25, 26, 27, 28, 29, 30, 31, 2, 21, 22, 4] (fun m e' H' => ∃ k : Nat, k ≤ xs.length ∧ m = xs.length - k ∧ e' 4 = .int .i64 k ∧ H' = [] ∧ Hid (∀ j (h1 : j < xs.length), j < k → inB xs[j] 1 999 = true)) xs.length ⟨0, by omega, by omega, rfl, rfl, fun j _ h => by omega⟩ ?_
        rintro m e' H' hA ⟨k, hk, rfl, h4, rfl, heq⟩ hJ
        have a0 := hA 0 rfl; have a3 := hA 3 rfl; try simp only [bse, wk, tys, storeH_ptr, Nat.reduceEqDiff, ↓reduceIte, reduceCtorEq, Nat.reduceAdd, Nat.reduceLeDiff, Int.reduceBEq, Int.reduceLT, Int.reduceLE, Int.reduceEq, ne_eq, not_false_eq_true, Nat.reduceMul] at a0 a3; clear hA
        by_cases hlt : k < xs.length
        · have hlt' : (k : Int) < (xs.length : Int) := by omega
          have hw := wr_succ (k := k) (by omega)
          cases hx : inB xs[k] 1 999 with
          | true =>
            repeat' (first | (refine ACalls.start ?_; first | (refine ACalls.ofJi (spec_l1Key _) rfl ?_)) | (refine KV.run _ ?_) | (refine KT.run _ ?_) | (refine AWp.seqH fun KC => ?_) | (refine AWp.block ?_) | (refine AWp.region ?_) | (refine AWp.skip ?_) | (refine aops_callH rfl fun kC => ?_) | (refine AWp.condB ?_) | (simp only [bse, wk, tys, storeH_ptr, Nat.reduceEqDiff, ↓reduceIte, reduceCtorEq, Nat.reduceAdd, Nat.reduceLeDiff, Int.reduceBEq, Int.reduceLT, Int.reduceLE, Int.reduceEq, ne_eq, not_false_eq_true, Nat.reduceMul, ruleE_val, ruleE_sz, signE_val, signE_sz, ledgerE_val, ledgerE_sz, *]))
            refine hJ.out _ _ ⟨xs.length - (k + 1), by omega, k + 1, by omega, rfl, rfl, rfl, fun j h1 hj => ?_⟩ (by repeat (first | exact Agree.refl _ _ | assumption | refine Agree.put ?_ rfl _))
            by_cases e : j = k
            · subst e; exact hx
            · exact heq.out j h1 (by omega)
          | false =>
            have hq : Hid (ruleFault xs need after = 3) := by unfold Hid; simp [ruleFault, hin, keysB_false hlt hx]
            repeat' (first | (refine ACalls.start ?_; first | (refine ACalls.ofJi (spec_l1Key _) rfl ?_)) | (refine KV.run _ ?_) | (refine KT.run _ ?_) | (refine AWp.seqH fun KC => ?_) | (refine AWp.block ?_) | (refine AWp.region ?_) | (refine AWp.ret ?_) | (refine AWp.skip ?_) | (refine aops_callH rfl fun kC => ?_) | (refine AWp.condB ?_) | (simp only [bse, wk, tys, storeH_ptr, Nat.reduceEqDiff, ↓reduceIte, reduceCtorEq, Nat.reduceAdd, Nat.reduceLeDiff, Int.reduceBEq, Int.reduceLT, Int.reduceLE, Int.reduceEq, ne_eq, not_false_eq_true, Nat.reduceMul, ruleE_val, ruleE_sz, signE_val, signE_sz, ledgerE_val, ledgerE_sz, *]))
            rw [hq.out]
        · have hlt' : ¬ (k : Int) < (xs.length : Int) := by omega
          have hks : keysB xs = true := keysB_true fun j hj => heq.out j hj (by omega)
          repeat' (first | (refine ACalls.start ?_; first | (refine ACalls.ofJi (spec_l1In _ _ _) rfl ?_) | (refine ACalls.ofJi (spec_l2Height _) rfl ?_)) | (refine KV.run _ ?_) | (refine KT.run _ ?_) | (refine AWp.seqH fun KC => ?_) | (refine AWp.block ?_) | (refine AWp.region ?_) | (refine AWp.skip ?_) | (refine AWp.exit ?_) | (refine aops_callH rfl fun kC => ?_) | (refine AWp.condB ?_) | (simp only [bse, wk, tys, storeH_ptr, Nat.reduceEqDiff, ↓reduceIte, reduceCtorEq, Nat.reduceAdd, Nat.reduceLeDiff, Int.reduceBEq, Int.reduceLT, Int.reduceLE, Int.reduceEq, ne_eq, not_false_eq_true, Nat.reduceMul, ruleE_val, ruleE_sz, signE_val, signE_sz, ledgerE_val, ledgerE_sz, *]))
          refine AWp.loopH [47, 48, 49, 50, 51, 52, 53, 56, 57, 58, 59, 60, 61, 62, 63, 64, 65, 66, 67, 68, 69, 70, 71, 2, 54, 55, 5] (fun m e'' H' => ∃ k : Nat, 1 ≤ k ∧ m = xs.length - k ∧ e'' 5 = .int .i64 k ∧ H' = [] ∧ Hid (∀ j (h1 : j + 1 < xs.length), j + 1 < k → xs[j] < xs[j + 1])) (xs.length - 1) ⟨1, by omega, by omega, rfl, rfl, fun j _ h => by omega⟩ ?_
          rintro m e'' H'' hA ⟨k, hk, rfl, h5, rfl, heq2⟩ hJ2
          have a0 := hA 0 rfl; try simp only [bse, wk, tys, storeH_ptr, Nat.reduceEqDiff, ↓reduceIte, reduceCtorEq, Nat.reduceAdd, Nat.reduceLeDiff, Int.reduceBEq, Int.reduceLT, Int.reduceLE, Int.reduceEq, ne_eq, not_false_eq_true, Nat.reduceMul] at a0; clear hA
          by_cases hlt2 : k < xs.length
          · have hlt2' : (k : Int) < (xs.length : Int) := by omega
            obtain ⟨k', rfl⟩ : ∃ k', k = k' + 1 := ⟨k - 1, by omega⟩
            have hk2 : k' < xs.length := by omega
            have hw := wr_succ (k := k' + 1) (by omega)
            have hw2 : IntKind.i64.wrap (((k' + 1 : Nat) : Int) - 1) = (k' : Int) := by rw [wr] <;> omega
            by_cases hx : xs[k' + 1] ≤ xs[k']
            · have hq : Hid (ruleFault xs need after = 1) := by unfold Hid; simp [ruleFault, hin, hks, hneed, haft, risB_false hlt2 hx]
              repeat' (first | (refine AWp.quiet (id := 14) (by kernel_rfl) (by kernel_rfl) ?_) | (refine KT.run _ ?_) | (refine AWp.seqH fun KC => ?_) | (refine AWp.block ?_) | (refine AWp.region ?_) | (refine AWp.ret ?_) | (refine AWp.skip ?_) | (refine AWp.condB ?_) | (simp only [bse, wk, tys, storeH_ptr, Nat.reduceEqDiff, ↓reduceIte, reduceCtorEq, Nat.reduceAdd, Nat.reduceLeDiff, Int.reduceBEq, Int.reduceLT, Int.reduceLE, Int.reduceEq, ne_eq, not_false_eq_true, Nat.reduceMul, ruleE_val, ruleE_sz, signE_val, signE_sz, ledgerE_val, ledgerE_sz, *]))
              rw [hq.out]
            · repeat' (first | (refine AWp.quiet (id := 14) (by kernel_rfl) (by kernel_rfl) ?_) | (refine KV.run _ ?_) | (refine KQ.run _ ?_) | (refine KT.run _ ?_) | (refine AWp.seqH fun KC => ?_) | (refine AWp.block ?_) | (refine AWp.region ?_) | (refine mops_step0 rfl rfl fun KC => ?_) | (refine mops_step1 rfl fun KC => ?_) | (refine mops_step2 rfl fun KC => ?_) | (refine AWp.ret ?_) | (refine AWp.skip ?_) | (refine AWp.exit ?_) | (refine aops_callH rfl fun kC => ?_) | (refine qops_callH rfl fun kC => ?_) | (refine AWp.condB ?_) | (simp only [bse, wk, tys, storeH_ptr, Nat.reduceEqDiff, ↓reduceIte, reduceCtorEq, Nat.reduceAdd, Nat.reduceLeDiff, Int.reduceBEq, Int.reduceLT, Int.reduceLE, Int.reduceEq, ne_eq, not_false_eq_true, Nat.reduceMul, ruleE_val, ruleE_sz, signE_val, signE_sz, ledgerE_val, ledgerE_sz, *]) | (refine condK_bool (fun hb => ?_) (fun hb => ?_) <;> ((try simp only [Bool.not_eq_true', Bool.not_eq_false'] at hb) <;> (try (have hbe := of_decide_eq_true hb)) <;> (try (have hbe := eq_of_beq hb)))) | (refine aops_partB ?_) | (refine qops_partB ?_))
              refine hJ2.out _ _ ⟨xs.length - (k' + 1 + 1), by omega, k' + 1 + 1, by omega, rfl, rfl, rfl, fun j h1 hj => ?_⟩ (by repeat (first | exact Agree.refl _ _ | assumption | refine Agree.put ?_ rfl _))
              by_cases e : j = k'
              · subst e; omega
              · exact heq2.out j h1 (by omega)
          · have hlt2' : ¬ (k : Int) < (xs.length : Int) := by omega
            have hr2 : risB xs = true := (risB_iff xs).2 fun j h1 => heq2.out j h1 (by omega)
            have hq : Hid (ruleFault xs need after = 0) := by unfold Hid; simp [ruleFault, hin, hks, hneed, haft, hr2]
            repeat' (first | (refine KT.run _ ?_) | (refine AWp.seqH fun KC => ?_) | (refine AWp.region ?_) | (refine AWp.ret ?_) | (refine AWp.exit ?_) | (refine AWp.condB ?_) | (simp only [bse, wk, tys, storeH_ptr, Nat.reduceEqDiff, ↓reduceIte, reduceCtorEq, Nat.reduceAdd, Nat.reduceLeDiff, Int.reduceBEq, Int.reduceLT, Int.reduceLE, Int.reduceEq, ne_eq, not_false_eq_true, Nat.reduceMul, ruleE_val, ruleE_sz, signE_val, signE_sz, ledgerE_val, ledgerE_sz, *]))
            rw [hq.out]
def sgIn (gs : List TSign) (key id : Int) : Bool := gs.any fun y => key == y.key && id == y.id
theorem impl_hasSign (l : TLedger) (key id : Int) (h2 : l.signs.length ≤ 1048576) : PCalls Tryz.prog 41 [ledgerE.val l, .int .i64 key, .int .i64 id] (.bool (sgIn l.signs key id)) := by
  have hc := lib_Contains_Sign l.signs ⟨key, id⟩ (by omega)
  unfold sgIn
  refine PCalls.flat rfl ?_; refine ACalls.enter (n := 13) (rs := [.tmp 6]) Tryz.func41 rfl rfl rfl (by kernel_rfl) (by kernel_rfl) (by kernel_rfl) (Nat.le_of_ble_eq_true rfl) ?_
  repeat' (first | (refine ACalls.start ?_; first | (refine ACalls.ofJi (hc) rfl ?_)) | (refine KV.run _ ?_) | (refine KT.run _ ?_) | (refine AWp.seqH fun KC => ?_) | (refine AWp.region ?_) | (refine AWp.ret ?_) | (refine aops_callH rfl fun kC => ?_) | (simp only [bse, wk, tys, storeH_ptr, Nat.reduceEqDiff, ↓reduceIte, reduceCtorEq, Nat.reduceAdd, Nat.reduceLeDiff, Int.reduceBEq, Int.reduceLT, Int.reduceLE, Int.reduceEq, ne_eq, not_false_eq_true, Nat.reduceMul, ruleE_val, ruleE_sz, signE_val, signE_sz, ledgerE_val, ledgerE_sz, *]))
theorem spec_l1Has (l : TLedger) (key id : Int) (h2 : l.signs.length ≤ 1048576) : PCalls Tryz.prog 50 [ip [islE strE l.texts, islE signE l.signs], .int .i64 key, .int .i64 id] (.bool (sgIn l.signs key id)) := by
  have hc := spec_l1Signed l.signs ⟨key, id⟩ (by omega)
  rw [any_swapG] at hc
  unfold sgIn
  refine PCalls.flat rfl ?_; refine ACalls.enter (n := 15) (rs := [.tmp 6]) Tryz.func50 rfl rfl rfl (by kernel_rfl) (by kernel_rfl) (by kernel_rfl) (Nat.le_of_ble_eq_true rfl) ?_
  repeat' (first | (refine ACalls.start ?_; first | (refine ACalls.ofJi (hc) rfl ?_)) | (refine KV.run _ ?_) | (refine KT.run _ ?_) | (refine AWp.seqH fun KC => ?_) | (refine AWp.region ?_) | (refine AWp.ret ?_) | (refine aops_callH rfl fun kC => ?_) | (simp only [bse, wk, tys, storeH_ptr, Nat.reduceEqDiff, ↓reduceIte, reduceCtorEq, Nat.reduceAdd, Nat.reduceLeDiff, Int.reduceBEq, Int.reduceLT, Int.reduceLE, Int.reduceEq, ne_eq, not_false_eq_true, Nat.reduceMul, ruleE_val, ruleE_sz, signE_val, signE_sz, ledgerE_val, ledgerE_sz, *]))
def sgCount (gs : List TSign) (id : Int) (ks : List Int) : Nat := (ks.filter fun k => sgIn gs k id).length
theorem sgCount_step (gs : List TSign) (id : Int) (ks : List Int) (k : Nat) (hk : k < ks.length) : sgCount gs id (ks.take (k + 1)) = if sgIn gs ks[k] id then sgCount gs id (ks.take k) + 1 else sgCount gs id (ks.take k) := by
  unfold sgCount
  rw [filter_step _ ks k hk]
  split <;> simp
theorem sgCount_le (gs : List TSign) (id : Int) (ks : List Int) : sgCount gs id ks ≤ ks.length := List.length_filter_le _ _
def metF (gs : List TSign) (r : TRule) (id height : Int) : Int := if decide (height < r.after) then 9 else if decide (((sgCount gs id r.keys : Nat) : Int) < r.need) then 6 else 0
theorem impl_ruleMet (l : TLedger) (r : TRule) (id height : Int) (h2 : l.signs.length ≤ 1048576) (hk : r.keys.length ≤ 1048576) : PCalls Tryz.prog 24 [ledgerE.val l, ruleE.val r, .int .i64 id, .int .i64 height] (.int .i64 (metF l.signs r id height)) := by
  unfold metF
  by_cases hh : height < r.after
  · simp only [hh, decide_true, if_true]
    refine PCalls.flat rfl ?_; refine ACalls.enter (n := 34) (rs := [.tmp 8]) Tryz.func24 rfl rfl rfl (by kernel_rfl) (by kernel_rfl) (by kernel_rfl) (Nat.le_of_ble_eq_true rfl) ?_
    repeat' (first | (refine KT.run _ ?_) | (refine AWp.seqH fun KC => ?_) | (refine AWp.region ?_) | (refine AWp.ret ?_) | (refine AWp.condB ?_) | (simp only [bse, wk, tys, storeH_ptr, Nat.reduceEqDiff, ↓reduceIte, reduceCtorEq, Nat.reduceAdd, Nat.reduceLeDiff, Int.reduceBEq, Int.reduceLT, Int.reduceLE, Int.reduceEq, ne_eq, not_false_eq_true, Nat.reduceMul, ruleE_val, ruleE_sz, signE_val, signE_sz, ledgerE_val, ledgerE_sz, *]))
  · simp only [hh, decide_false, Bool.false_eq_true, if_false]
    refine PCalls.flat rfl ?_; refine ACalls.enter (n := 34) (rs := [.tmp 8]) Tryz.func24 rfl rfl rfl (by kernel_rfl) (by kernel_rfl) (by kernel_rfl) (Nat.le_of_ble_eq_true rfl) ?_
    repeat' (first | (refine KT.run _ ?_) | (refine AWp.seqH fun KC => ?_) | (refine AWp.block ?_) | (refine AWp.region ?_) | (refine AWp.skip ?_) | (refine AWp.condB ?_) | (simp only [bse, wk, tys, storeH_ptr, Nat.reduceEqDiff, ↓reduceIte, reduceCtorEq, Nat.reduceAdd, Nat.reduceLeDiff, Int.reduceBEq, Int.reduceLT, Int.reduceLE, Int.reduceEq, ne_eq, not_false_eq_true, Nat.reduceMul, ruleE_val, ruleE_sz, signE_val, signE_sz, ledgerE_val, ledgerE_sz, *]))
    refine AWp.loopH [20, 21, 22, 11, 23, 24, 25, 26, 27, 28, 9, 29, 19] (fun m e' H' => ∃ (k c : Nat), k ≤ r.keys.length ∧ m = r.keys.length - k ∧ e' 19 = .int .i64 k ∧ e' 9 = .int .i64 c ∧ H' = [⟨27, 0, [islE strE l.texts, islE signE l.signs], 0, true⟩, ⟨30, 0, [islE intE r.keys, .int .i64 r.need, .int .i64 r.after], 0, true⟩] ∧ Hid (c = sgCount l.signs id (r.keys.take k))) r.keys.length ⟨0, 0, by omega, by omega, rfl, rfl, rfl, rfl⟩ ?_
    rintro m e' H' hA ⟨k, c, hk', rfl, hix, h9, rfl, hF⟩ hJ
    have a2 := hA 2 rfl; have a4 := hA 4 rfl; have a5 := hA 5 rfl; have a8 := hA 8 rfl; have a17 := hA 17 rfl; have a18 := hA 18 rfl; try simp only [bse, wk, tys, storeH_ptr, Nat.reduceEqDiff, ↓reduceIte, reduceCtorEq, Nat.reduceAdd, Nat.reduceLeDiff, Int.reduceBEq, Int.reduceLT, Int.reduceLE, Int.reduceEq, ne_eq, not_false_eq_true, Nat.reduceMul] at a2 a4 a5 a8 a17 a18; clear hA
    by_cases hlt : k < r.keys.length
    · have hlt' : (k : Int) < (r.keys.length : Int) := by omega
      have hw := wr_succ (k := k) (by omega)
      have hcl : c ≤ 1048576 := by have := hF.out; have := sgCount_le l.signs id (r.keys.take k); simp at this; omega
      have hwc := wr_succ (k := c) (by omega)
      have hct := impl_hasSign l r.keys[k] id h2
      have hst := sgCount_step l.signs id r.keys k hlt
      rw [← hF.out] at hst
      generalize sgIn l.signs r.keys[k] id = bb at hct hst
      cases bb with
      | true =>
        have hs : Hid (c + 1 = sgCount l.signs id (r.keys.take (k + 1))) := by unfold Hid; rw [hst, if_pos rfl]
        clear hst hF
        repeat' (first | (refine ACalls.start ?_; first | (refine ACalls.ofJi (hct) rfl ?_)) | (refine KV.run _ ?_) | (refine KT.run _ ?_) | (refine AWp.seqH fun KC => ?_) | (refine AWp.block ?_) | (refine AWp.region ?_) | (refine AWp.skip ?_) | (refine aops_callH rfl fun kC => ?_) | (refine AWp.condB ?_) | (simp only [bse, wk, tys, storeH_ptr, Nat.reduceEqDiff, ↓reduceIte, reduceCtorEq, Nat.reduceAdd, Nat.reduceLeDiff, Int.reduceBEq, Int.reduceLT, Int.reduceLE, Int.reduceEq, ne_eq, not_false_eq_true, Nat.reduceMul, ruleE_val, ruleE_sz, signE_val, signE_sz, ledgerE_val, ledgerE_sz, *]))
        exact hJ.out _ _ ⟨r.keys.length - (k + 1), by omega, k + 1, c + 1, by omega, rfl, rfl, by simp [put, *], rfl, hs⟩ (by repeat (first | exact Agree.refl _ _ | assumption | refine Agree.put ?_ rfl _))
      | false =>
        have hs : Hid (c = sgCount l.signs id (r.keys.take (k + 1))) := by unfold Hid; rw [hst, if_neg Bool.false_ne_true]
        clear hst hF
        repeat' (first | (refine ACalls.start ?_; first | (refine ACalls.ofJi (hct) rfl ?_)) | (refine KV.run _ ?_) | (refine KT.run _ ?_) | (refine AWp.seqH fun KC => ?_) | (refine AWp.block ?_) | (refine AWp.region ?_) | (refine AWp.skip ?_) | (refine aops_callH rfl fun kC => ?_) | (refine AWp.condB ?_) | (simp only [bse, wk, tys, storeH_ptr, Nat.reduceEqDiff, ↓reduceIte, reduceCtorEq, Nat.reduceAdd, Nat.reduceLeDiff, Int.reduceBEq, Int.reduceLT, Int.reduceLE, Int.reduceEq, ne_eq, not_false_eq_true, Nat.reduceMul, ruleE_val, ruleE_sz, signE_val, signE_sz, ledgerE_val, ledgerE_sz, *]))
        exact hJ.out _ _ ⟨r.keys.length - (k + 1), by omega, k + 1, c, by omega, rfl, rfl, by simp [put, *], rfl, hs⟩ (by repeat (first | exact Agree.refl _ _ | assumption | refine Agree.put ?_ rfl _))
    · have hlt' : ¬ (k : Int) < (r.keys.length : Int) := by omega
      have hke : k = r.keys.length := by omega
      subst hke
      rw [List.take_length] at hF
      have hce := hF.out
      clear hF
      subst hce
      by_cases h3 : ((sgCount l.signs id r.keys : Nat) : Int) < r.need
      · simp only [h3, decide_true, if_true]
        repeat' (first | (refine KT.run _ ?_) | (refine AWp.seqH fun KC => ?_) | (refine AWp.region ?_) | (refine AWp.ret ?_) | (refine AWp.exit ?_) | (refine AWp.condB ?_) | (simp only [bse, wk, tys, storeH_ptr, Nat.reduceEqDiff, ↓reduceIte, reduceCtorEq, Nat.reduceAdd, Nat.reduceLeDiff, Int.reduceBEq, Int.reduceLT, Int.reduceLE, Int.reduceEq, ne_eq, not_false_eq_true, Nat.reduceMul, ruleE_val, ruleE_sz, signE_val, signE_sz, ledgerE_val, ledgerE_sz, *]))
      · simp only [h3, decide_false, Bool.false_eq_true, if_false]
        repeat' (first | (refine KT.run _ ?_) | (refine AWp.seqH fun KC => ?_) | (refine AWp.region ?_) | (refine AWp.ret ?_) | (refine AWp.skip ?_) | (refine AWp.exit ?_) | (refine AWp.condB ?_) | (simp only [bse, wk, tys, storeH_ptr, Nat.reduceEqDiff, ↓reduceIte, reduceCtorEq, Nat.reduceAdd, Nat.reduceLeDiff, Int.reduceBEq, Int.reduceLT, Int.reduceLE, Int.reduceEq, ne_eq, not_false_eq_true, Nat.reduceMul, ruleE_val, ruleE_sz, signE_val, signE_sz, ledgerE_val, ledgerE_sz, *]))
theorem spec_l2Met (l : TLedger) (r : TRule) (id height : Int) (h2 : l.signs.length ≤ 1048576) (hk : r.keys.length ≤ 1048576) : PCalls Tryz.prog 29 [ip [islE strE l.texts, islE signE l.signs], ip [islE intE r.keys, .int .i64 r.need, .int .i64 r.after], .int .i64 id, .int .i64 height] (.int .i64 (metF l.signs r id height)) := by
  unfold metF
  by_cases hh : height < r.after
  · simp only [hh, decide_true, if_true]
    refine PCalls.flat rfl ?_; refine ACalls.enter (n := 44) (rs := [.tmp 8]) Tryz.func29 rfl rfl rfl (by kernel_rfl) (by kernel_rfl) (by kernel_rfl) (Nat.le_of_ble_eq_true rfl) ?_
    repeat' (first | (refine KT.run _ ?_) | (refine AWp.seqH fun KC => ?_) | (refine AWp.region ?_) | (refine AWp.ret ?_) | (refine AWp.condB ?_) | (simp only [bse, wk, tys, storeH_ptr, Nat.reduceEqDiff, ↓reduceIte, reduceCtorEq, Nat.reduceAdd, Nat.reduceLeDiff, Int.reduceBEq, Int.reduceLT, Int.reduceLE, Int.reduceEq, ne_eq, not_false_eq_true, Nat.reduceMul, ruleE_val, ruleE_sz, signE_val, signE_sz, ledgerE_val, ledgerE_sz, *]))
  · simp only [hh, decide_false, Bool.false_eq_true, if_false]
    refine PCalls.flat rfl ?_; refine ACalls.enter (n := 44) (rs := [.tmp 8]) Tryz.func29 rfl rfl rfl (by kernel_rfl) (by kernel_rfl) (by kernel_rfl) (Nat.le_of_ble_eq_true rfl) ?_
    repeat' (first | (refine KT.run _ ?_) | (refine AWp.seqH fun KC => ?_) | (refine AWp.block ?_) | (refine AWp.region ?_) | (refine AWp.skip ?_) | (refine AWp.condB ?_) | (simp only [bse, wk, tys, storeH_ptr, Nat.reduceEqDiff, ↓reduceIte, reduceCtorEq, Nat.reduceAdd, Nat.reduceLeDiff, Int.reduceBEq, Int.reduceLT, Int.reduceLE, Int.reduceEq, ne_eq, not_false_eq_true, Nat.reduceMul, ruleE_val, ruleE_sz, signE_val, signE_sz, ledgerE_val, ledgerE_sz, *]))
    refine AWp.loopH [17, 18, 19, 20, 21, 22, 23, 26, 27, 28, 29, 30, 31, 32, 33, 34, 35, 36, 37, 9, 24, 25, 10] (fun m e' H' => ∃ (k c : Nat), k ≤ r.keys.length ∧ m = r.keys.length - k ∧ e' 10 = .int .i64 k ∧ e' 9 = .int .i64 c ∧ H' = [] ∧ Hid (c = sgCount l.signs id (r.keys.take k))) r.keys.length ⟨0, 0, by omega, by omega, rfl, rfl, rfl, rfl⟩ ?_
    rintro m e' H' hA ⟨k, c, hk', rfl, hix, h9, rfl, hF⟩ hJ
    have a0 := hA 0 rfl; have a1 := hA 1 rfl; have a2 := hA 2 rfl; have a8 := hA 8 rfl; try simp only [bse, wk, tys, storeH_ptr, Nat.reduceEqDiff, ↓reduceIte, reduceCtorEq, Nat.reduceAdd, Nat.reduceLeDiff, Int.reduceBEq, Int.reduceLT, Int.reduceLE, Int.reduceEq, ne_eq, not_false_eq_true, Nat.reduceMul] at a0 a1 a2 a8; clear hA
    by_cases hlt : k < r.keys.length
    · have hlt' : (k : Int) < (r.keys.length : Int) := by omega
      have hw := wr_succ (k := k) (by omega)
      have hcl : c ≤ 1048576 := by have := hF.out; have := sgCount_le l.signs id (r.keys.take k); simp at this; omega
      have hwc := wr_succ (k := c) (by omega)
      have hct := spec_l1Has l r.keys[k] id h2
      have hst := sgCount_step l.signs id r.keys k hlt
      rw [← hF.out] at hst
      generalize sgIn l.signs r.keys[k] id = bb at hct hst
      cases bb with
      | true =>
        have hs : Hid (c + 1 = sgCount l.signs id (r.keys.take (k + 1))) := by unfold Hid; rw [hst, if_pos rfl]
        clear hst hF
        repeat' (first | (refine ACalls.start ?_; first | (refine ACalls.ofP (hct) ?_ ?_ ?_; (focus ((repeat' (first | exact BorL.nil | refine BorL.cons ?_ ?_ | exact Bor.same _ (by repeat' (first | exact Im.nilL | refine Im.consL ?_ ?_ | refine Im.appL ?_ ?_ | exact Im.flat _ rfl | exact islE_im _ _ | exact Enc.val_im _ _ | assumption | refine Im.aggL ?_ | refine Im.funcL ?_ | refine Im.funcA ?_ | refine Im.isl ?_ | refine Im.ip ?_)) | exact Bor.nil | exact Bor.sb (by first | (simp only [bse, wk, tys, storeH_ptr, Nat.reduceEqDiff, ↓reduceIte, reduceCtorEq, Nat.reduceAdd, Nat.reduceLeDiff, Int.reduceBEq, Int.reduceLT, Int.reduceLE, Int.reduceEq, ne_eq, not_false_eq_true, Nat.reduceMul, ruleE_val, ruleE_sz, signE_val, signE_sz, ledgerE_val, ledgerE_sz]; exact rfl) | (simp only [bse, wk, tys, storeH_ptr, Nat.reduceEqDiff, ↓reduceIte, reduceCtorEq, Nat.reduceAdd, Nat.reduceLeDiff, Int.reduceBEq, Int.reduceLT, Int.reduceLE, Int.reduceEq, ne_eq, not_false_eq_true, Nat.reduceMul, ruleE_val, ruleE_sz, signE_val, signE_sz, ledgerE_val, ledgerE_sz]; done) | (simp only [bse, wk, tys, storeH_ptr, Nat.reduceEqDiff, ↓reduceIte, reduceCtorEq, Nat.reduceAdd, Nat.reduceLeDiff, Int.reduceBEq, Int.reduceLT, Int.reduceLE, Int.reduceEq, ne_eq, not_false_eq_true, Nat.reduceMul, ruleE_val, ruleE_sz, signE_val, signE_sz, ledgerE_val, ledgerE_sz, *]; done)) (by first | exact fun _ => rfl | assumption | (intros; omega)) rfl | exact Bor.mks (by first | (simp only [bse, wk, tys, storeH_ptr, Nat.reduceEqDiff, ↓reduceIte, reduceCtorEq, Nat.reduceAdd, Nat.reduceLeDiff, Int.reduceBEq, Int.reduceLT, Int.reduceLE, Int.reduceEq, ne_eq, not_false_eq_true, Nat.reduceMul, ruleE_val, ruleE_sz, signE_val, signE_sz, ledgerE_val, ledgerE_sz]; exact rfl) | (simp only [bse, wk, tys, storeH_ptr, Nat.reduceEqDiff, ↓reduceIte, reduceCtorEq, Nat.reduceAdd, Nat.reduceLeDiff, Int.reduceBEq, Int.reduceLT, Int.reduceLE, Int.reduceEq, ne_eq, not_false_eq_true, Nat.reduceMul, ruleE_val, ruleE_sz, signE_val, signE_sz, ledgerE_val, ledgerE_sz]; done) | (simp only [bse, wk, tys, storeH_ptr, Nat.reduceEqDiff, ↓reduceIte, reduceCtorEq, Nat.reduceAdd, Nat.reduceLeDiff, Int.reduceBEq, Int.reduceLT, Int.reduceLE, Int.reduceEq, ne_eq, not_false_eq_true, Nat.reduceMul, ruleE_val, ruleE_sz, signE_val, signE_sz, ledgerE_val, ledgerE_sz, *]; done)) (by first | exact fun _ => rfl | assumption | (intros; omega)) (by intros; omega) | refine Bor.ptrL (by first | (simp only [bse, wk, tys, storeH_ptr, Nat.reduceEqDiff, ↓reduceIte, reduceCtorEq, Nat.reduceAdd, Nat.reduceLeDiff, Int.reduceBEq, Int.reduceLT, Int.reduceLE, Int.reduceEq, ne_eq, not_false_eq_true, Nat.reduceMul, ruleE_val, ruleE_sz, signE_val, signE_sz, ledgerE_val, ledgerE_sz]; exact rfl) | (simp only [bse, wk, tys, storeH_ptr, Nat.reduceEqDiff, ↓reduceIte, reduceCtorEq, Nat.reduceAdd, Nat.reduceLeDiff, Int.reduceBEq, Int.reduceLT, Int.reduceLE, Int.reduceEq, ne_eq, not_false_eq_true, Nat.reduceMul, ruleE_val, ruleE_sz, signE_val, signE_sz, ledgerE_val, ledgerE_sz]; done) | (simp only [bse, wk, tys, storeH_ptr, Nat.reduceEqDiff, ↓reduceIte, reduceCtorEq, Nat.reduceAdd, Nat.reduceLeDiff, Int.reduceBEq, Int.reduceLT, Int.reduceLE, Int.reduceEq, ne_eq, not_false_eq_true, Nat.reduceMul, ruleE_val, ruleE_sz, signE_val, signE_sz, ledgerE_val, ledgerE_sz, *]; done)) rfl rfl ⟨_, ?_, (by first | (simp only [bse, wk, tys, storeH_ptr, Nat.reduceEqDiff, ↓reduceIte, reduceCtorEq, Nat.reduceAdd, Nat.reduceLeDiff, Int.reduceBEq, Int.reduceLT, Int.reduceLE, Int.reduceEq, ne_eq, not_false_eq_true, Nat.reduceMul, ruleE_val, ruleE_sz, signE_val, signE_sz, ledgerE_val, ledgerE_sz]; exact rfl) | (simp only [bse, wk, tys, storeH_ptr, Nat.reduceEqDiff, ↓reduceIte, reduceCtorEq, Nat.reduceAdd, Nat.reduceLeDiff, Int.reduceBEq, Int.reduceLT, Int.reduceLE, Int.reduceEq, ne_eq, not_false_eq_true, Nat.reduceMul, ruleE_val, ruleE_sz, signE_val, signE_sz, ledgerE_val, ledgerE_sz]; done) | (simp only [bse, wk, tys, storeH_ptr, Nat.reduceEqDiff, ↓reduceIte, reduceCtorEq, Nat.reduceAdd, Nat.reduceLeDiff, Int.reduceBEq, Int.reduceLT, Int.reduceLE, Int.reduceEq, ne_eq, not_false_eq_true, Nat.reduceMul, ruleE_val, ruleE_sz, signE_val, signE_sz, ledgerE_val, ledgerE_sz, *]; done))⟩ (by simp) | refine Bor.aggL ?_ | refine Bor.funcL ?_)); done)); (focus ((first | exact rfl | (simp [pureV, flatV, ruleE_val, ruleE_sz, signE_val, signE_sz, ledgerE_val, ledgerE_sz]; done)))))) | (refine KV.run _ ?_) | (refine KT.run _ ?_) | (refine AWp.seqH fun KC => ?_) | (refine AWp.block ?_) | (refine AWp.region ?_) | (refine AWp.skip ?_) | (refine aops_callH rfl fun kC => ?_) | (refine AWp.condB ?_) | (simp only [bse, wk, tys, storeH_ptr, Nat.reduceEqDiff, ↓reduceIte, reduceCtorEq, Nat.reduceAdd, Nat.reduceLeDiff, Int.reduceBEq, Int.reduceLT, Int.reduceLE, Int.reduceEq, ne_eq, not_false_eq_true, Nat.reduceMul, ruleE_val, ruleE_sz, signE_val, signE_sz, ledgerE_val, ledgerE_sz, *]))
        exact hJ.out _ _ ⟨r.keys.length - (k + 1), by omega, k + 1, c + 1, by omega, rfl, rfl, by simp [put, *], rfl, hs⟩ (by repeat (first | exact Agree.refl _ _ | assumption | refine Agree.put ?_ rfl _))
      | false =>
        have hs : Hid (c = sgCount l.signs id (r.keys.take (k + 1))) := by unfold Hid; rw [hst, if_neg Bool.false_ne_true]
        clear hst hF
        repeat' (first | (refine ACalls.start ?_; first | (refine ACalls.ofP (hct) ?_ ?_ ?_; (focus ((repeat' (first | exact BorL.nil | refine BorL.cons ?_ ?_ | exact Bor.same _ (by repeat' (first | exact Im.nilL | refine Im.consL ?_ ?_ | refine Im.appL ?_ ?_ | exact Im.flat _ rfl | exact islE_im _ _ | exact Enc.val_im _ _ | assumption | refine Im.aggL ?_ | refine Im.funcL ?_ | refine Im.funcA ?_ | refine Im.isl ?_ | refine Im.ip ?_)) | exact Bor.nil | exact Bor.sb (by first | (simp only [bse, wk, tys, storeH_ptr, Nat.reduceEqDiff, ↓reduceIte, reduceCtorEq, Nat.reduceAdd, Nat.reduceLeDiff, Int.reduceBEq, Int.reduceLT, Int.reduceLE, Int.reduceEq, ne_eq, not_false_eq_true, Nat.reduceMul, ruleE_val, ruleE_sz, signE_val, signE_sz, ledgerE_val, ledgerE_sz]; exact rfl) | (simp only [bse, wk, tys, storeH_ptr, Nat.reduceEqDiff, ↓reduceIte, reduceCtorEq, Nat.reduceAdd, Nat.reduceLeDiff, Int.reduceBEq, Int.reduceLT, Int.reduceLE, Int.reduceEq, ne_eq, not_false_eq_true, Nat.reduceMul, ruleE_val, ruleE_sz, signE_val, signE_sz, ledgerE_val, ledgerE_sz]; done) | (simp only [bse, wk, tys, storeH_ptr, Nat.reduceEqDiff, ↓reduceIte, reduceCtorEq, Nat.reduceAdd, Nat.reduceLeDiff, Int.reduceBEq, Int.reduceLT, Int.reduceLE, Int.reduceEq, ne_eq, not_false_eq_true, Nat.reduceMul, ruleE_val, ruleE_sz, signE_val, signE_sz, ledgerE_val, ledgerE_sz, *]; done)) (by first | exact fun _ => rfl | assumption | (intros; omega)) rfl | exact Bor.mks (by first | (simp only [bse, wk, tys, storeH_ptr, Nat.reduceEqDiff, ↓reduceIte, reduceCtorEq, Nat.reduceAdd, Nat.reduceLeDiff, Int.reduceBEq, Int.reduceLT, Int.reduceLE, Int.reduceEq, ne_eq, not_false_eq_true, Nat.reduceMul, ruleE_val, ruleE_sz, signE_val, signE_sz, ledgerE_val, ledgerE_sz]; exact rfl) | (simp only [bse, wk, tys, storeH_ptr, Nat.reduceEqDiff, ↓reduceIte, reduceCtorEq, Nat.reduceAdd, Nat.reduceLeDiff, Int.reduceBEq, Int.reduceLT, Int.reduceLE, Int.reduceEq, ne_eq, not_false_eq_true, Nat.reduceMul, ruleE_val, ruleE_sz, signE_val, signE_sz, ledgerE_val, ledgerE_sz]; done) | (simp only [bse, wk, tys, storeH_ptr, Nat.reduceEqDiff, ↓reduceIte, reduceCtorEq, Nat.reduceAdd, Nat.reduceLeDiff, Int.reduceBEq, Int.reduceLT, Int.reduceLE, Int.reduceEq, ne_eq, not_false_eq_true, Nat.reduceMul, ruleE_val, ruleE_sz, signE_val, signE_sz, ledgerE_val, ledgerE_sz, *]; done)) (by first | exact fun _ => rfl | assumption | (intros; omega)) (by intros; omega) | refine Bor.ptrL (by first | (simp only [bse, wk, tys, storeH_ptr, Nat.reduceEqDiff, ↓reduceIte, reduceCtorEq, Nat.reduceAdd, Nat.reduceLeDiff, Int.reduceBEq, Int.reduceLT, Int.reduceLE, Int.reduceEq, ne_eq, not_false_eq_true, Nat.reduceMul, ruleE_val, ruleE_sz, signE_val, signE_sz, ledgerE_val, ledgerE_sz]; exact rfl) | (simp only [bse, wk, tys, storeH_ptr, Nat.reduceEqDiff, ↓reduceIte, reduceCtorEq, Nat.reduceAdd, Nat.reduceLeDiff, Int.reduceBEq, Int.reduceLT, Int.reduceLE, Int.reduceEq, ne_eq, not_false_eq_true, Nat.reduceMul, ruleE_val, ruleE_sz, signE_val, signE_sz, ledgerE_val, ledgerE_sz]; done) | (simp only [bse, wk, tys, storeH_ptr, Nat.reduceEqDiff, ↓reduceIte, reduceCtorEq, Nat.reduceAdd, Nat.reduceLeDiff, Int.reduceBEq, Int.reduceLT, Int.reduceLE, Int.reduceEq, ne_eq, not_false_eq_true, Nat.reduceMul, ruleE_val, ruleE_sz, signE_val, signE_sz, ledgerE_val, ledgerE_sz, *]; done)) rfl rfl ⟨_, ?_, (by first | (simp only [bse, wk, tys, storeH_ptr, Nat.reduceEqDiff, ↓reduceIte, reduceCtorEq, Nat.reduceAdd, Nat.reduceLeDiff, Int.reduceBEq, Int.reduceLT, Int.reduceLE, Int.reduceEq, ne_eq, not_false_eq_true, Nat.reduceMul, ruleE_val, ruleE_sz, signE_val, signE_sz, ledgerE_val, ledgerE_sz]; exact rfl) | (simp only [bse, wk, tys, storeH_ptr, Nat.reduceEqDiff, ↓reduceIte, reduceCtorEq, Nat.reduceAdd, Nat.reduceLeDiff, Int.reduceBEq, Int.reduceLT, Int.reduceLE, Int.reduceEq, ne_eq, not_false_eq_true, Nat.reduceMul, ruleE_val, ruleE_sz, signE_val, signE_sz, ledgerE_val, ledgerE_sz]; done) | (simp only [bse, wk, tys, storeH_ptr, Nat.reduceEqDiff, ↓reduceIte, reduceCtorEq, Nat.reduceAdd, Nat.reduceLeDiff, Int.reduceBEq, Int.reduceLT, Int.reduceLE, Int.reduceEq, ne_eq, not_false_eq_true, Nat.reduceMul, ruleE_val, ruleE_sz, signE_val, signE_sz, ledgerE_val, ledgerE_sz, *]; done))⟩ (by simp) | refine Bor.aggL ?_ | refine Bor.funcL ?_)); done)); (focus ((first | exact rfl | (simp [pureV, flatV, ruleE_val, ruleE_sz, signE_val, signE_sz, ledgerE_val, ledgerE_sz]; done)))))) | (refine KV.run _ ?_) | (refine KT.run _ ?_) | (refine AWp.seqH fun KC => ?_) | (refine AWp.block ?_) | (refine AWp.region ?_) | (refine AWp.skip ?_) | (refine aops_callH rfl fun kC => ?_) | (refine AWp.condB ?_) | (simp only [bse, wk, tys, storeH_ptr, Nat.reduceEqDiff, ↓reduceIte, reduceCtorEq, Nat.reduceAdd, Nat.reduceLeDiff, Int.reduceBEq, Int.reduceLT, Int.reduceLE, Int.reduceEq, ne_eq, not_false_eq_true, Nat.reduceMul, ruleE_val, ruleE_sz, signE_val, signE_sz, ledgerE_val, ledgerE_sz, *]))
        exact hJ.out _ _ ⟨r.keys.length - (k + 1), by omega, k + 1, c, by omega, rfl, rfl, by simp [put, *], rfl, hs⟩ (by repeat (first | exact Agree.refl _ _ | assumption | refine Agree.put ?_ rfl _))
    · have hlt' : ¬ (k : Int) < (r.keys.length : Int) := by omega
      have hke : k = r.keys.length := by omega
      subst hke
      rw [List.take_length] at hF
      have hce := hF.out
      clear hF
      subst hce
      by_cases h3 : ((sgCount l.signs id r.keys : Nat) : Int) < r.need
      · simp only [h3, decide_true, if_true]
        repeat' (first | (refine KT.run _ ?_) | (refine AWp.seqH fun KC => ?_) | (refine AWp.region ?_) | (refine AWp.ret ?_) | (refine AWp.exit ?_) | (refine AWp.condB ?_) | (simp only [bse, wk, tys, storeH_ptr, Nat.reduceEqDiff, ↓reduceIte, reduceCtorEq, Nat.reduceAdd, Nat.reduceLeDiff, Int.reduceBEq, Int.reduceLT, Int.reduceLE, Int.reduceEq, ne_eq, not_false_eq_true, Nat.reduceMul, ruleE_val, ruleE_sz, signE_val, signE_sz, ledgerE_val, ledgerE_sz, *]))
      · simp only [h3, decide_false, Bool.false_eq_true, if_false]
        repeat' (first | (refine KT.run _ ?_) | (refine AWp.seqH fun KC => ?_) | (refine AWp.region ?_) | (refine AWp.ret ?_) | (refine AWp.skip ?_) | (refine AWp.exit ?_) | (refine AWp.condB ?_) | (simp only [bse, wk, tys, storeH_ptr, Nat.reduceEqDiff, ↓reduceIte, reduceCtorEq, Nat.reduceAdd, Nat.reduceLeDiff, Int.reduceBEq, Int.reduceLT, Int.reduceLE, Int.reduceEq, ne_eq, not_false_eq_true, Nat.reduceMul, ruleE_val, ruleE_sz, signE_val, signE_sz, ledgerE_val, ledgerE_sz, *]))
def ruleMetF (l : TLedger) (r : TRule) (id height : Int) : Int :=
  if ledgerFault l == 0 then (if ruleFault r.keys r.need r.after == 0 then (if !inB id 1 l.texts.length || !inB height 0 999 then 3 else metF l.signs r id height) else ruleFault r.keys r.need r.after) else ledgerFault l
theorem impl_RuleMet (l : TLedger) (r : TRule) (id height : Int) (h : nLedger l ≤ 1048576) (h3 : r.keys.length ≤ 1048576) : PCalls Tryz.prog 6 [ledgerE.val l, ruleE.val r, .int .i64 id, .int .i64 height] (.int .i64 (ruleMetF l r id height)) := by
  have h1 := nLedger_texts h
  have h2 := nLedger_signs h
  unfold ruleMetF
  cases hf : (ledgerFault l == 0) <;> cases hr : (ruleFault r.keys r.need r.after == 0) <;> cases hi : inB id 1 l.texts.length <;> cases hh : inB height 0 999
  all_goals simp only [Bool.not_true, Bool.not_false, Bool.true_or, Bool.or_true, Bool.or_false, Bool.false_or, Bool.false_eq_true, if_true, if_false]
  all_goals
    refine PCalls.flat rfl ?_; refine ACalls.enter (n := 35) (rs := [.tmp 8]) Tryz.func6 rfl rfl rfl (by kernel_rfl) (by kernel_rfl) (by kernel_rfl) (Nat.le_of_ble_eq_true rfl) ?_
    repeat' (first | (refine ACalls.start ?_; first | (refine ACalls.ofJi (impl_LedgerFault l h1 h2) rfl ?_) | (refine ACalls.ofJi (impl_RuleFault r (by omega)) rfl ?_) | (refine ACalls.ofJi (impl_isInL l _) rfl ?_) | (refine ACalls.ofJi (impl_isHeight _) rfl ?_) | (refine ACalls.ofJi (impl_ruleMet l r id height h2 h3) rfl ?_)) | (refine KV.run _ ?_) | (refine KT.run _ ?_) | (refine AWp.seqH fun KC => ?_) | (refine AWp.region ?_) | (refine AWp.ret ?_) | (refine AWp.skip ?_) | (refine aops_callH rfl fun kC => ?_) | (refine AWp.condB ?_) | (simp only [bse, wk, tys, storeH_ptr, Nat.reduceEqDiff, ↓reduceIte, reduceCtorEq, Nat.reduceAdd, Nat.reduceLeDiff, Int.reduceBEq, Int.reduceLT, Int.reduceLE, Int.reduceEq, ne_eq, not_false_eq_true, Nat.reduceMul, ruleE_val, ruleE_sz, signE_val, signE_sz, ledgerE_val, ledgerE_sz, *]))
theorem spec_RuleMet (l : TLedger) (r : TRule) (id height : Int) (h : nLedger l ≤ 1048576) (h3 : r.keys.length ≤ 1048576) : PCalls Tryz.prog 7 [ledgerE.val l, ruleE.val r, .int .i64 id, .int .i64 height] (.int .i64 (ruleMetF l r id height)) := by
  have h1 := nLedger_texts h
  have h2 := nLedger_signs h
  unfold ruleMetF
  cases hf : (ledgerFault l == 0) <;> cases hr : (ruleFault r.keys r.need r.after == 0) <;> cases hi : inB id 1 l.texts.length <;> cases hh : inB height 0 999
  all_goals simp only [Bool.not_true, Bool.not_false, Bool.true_or, Bool.or_true, Bool.or_false, Bool.false_or, Bool.false_eq_true, if_true, if_false]
  all_goals
    refine PCalls.flat rfl ?_; refine ACalls.enter (n := 30) (rs := [.tmp 8]) Tryz.func7 rfl rfl rfl (by kernel_rfl) (by kernel_rfl) (by kernel_rfl) (Nat.le_of_ble_eq_true rfl) ?_
    repeat' (first | (refine ACalls.start ?_; first | (refine ACalls.ofP (spec_l1Fault l h1 h2) ?_ ?_ ?_; (focus ((repeat' (first | exact BorL.nil | refine BorL.cons ?_ ?_ | exact Bor.same _ (by repeat' (first | exact Im.nilL | refine Im.consL ?_ ?_ | refine Im.appL ?_ ?_ | exact Im.flat _ rfl | exact islE_im _ _ | exact Enc.val_im _ _ | assumption | refine Im.aggL ?_ | refine Im.funcL ?_ | refine Im.funcA ?_ | refine Im.isl ?_ | refine Im.ip ?_)) | exact Bor.nil | exact Bor.sb (by first | (simp only [bse, wk, tys, storeH_ptr, Nat.reduceEqDiff, ↓reduceIte, reduceCtorEq, Nat.reduceAdd, Nat.reduceLeDiff, Int.reduceBEq, Int.reduceLT, Int.reduceLE, Int.reduceEq, ne_eq, not_false_eq_true, Nat.reduceMul, ruleE_val, ruleE_sz, signE_val, signE_sz, ledgerE_val, ledgerE_sz]; exact rfl) | (simp only [bse, wk, tys, storeH_ptr, Nat.reduceEqDiff, ↓reduceIte, reduceCtorEq, Nat.reduceAdd, Nat.reduceLeDiff, Int.reduceBEq, Int.reduceLT, Int.reduceLE, Int.reduceEq, ne_eq, not_false_eq_true, Nat.reduceMul, ruleE_val, ruleE_sz, signE_val, signE_sz, ledgerE_val, ledgerE_sz]; done) | (simp only [bse, wk, tys, storeH_ptr, Nat.reduceEqDiff, ↓reduceIte, reduceCtorEq, Nat.reduceAdd, Nat.reduceLeDiff, Int.reduceBEq, Int.reduceLT, Int.reduceLE, Int.reduceEq, ne_eq, not_false_eq_true, Nat.reduceMul, ruleE_val, ruleE_sz, signE_val, signE_sz, ledgerE_val, ledgerE_sz, *]; done)) (by first | exact fun _ => rfl | assumption | (intros; omega)) rfl | exact Bor.mks (by first | (simp only [bse, wk, tys, storeH_ptr, Nat.reduceEqDiff, ↓reduceIte, reduceCtorEq, Nat.reduceAdd, Nat.reduceLeDiff, Int.reduceBEq, Int.reduceLT, Int.reduceLE, Int.reduceEq, ne_eq, not_false_eq_true, Nat.reduceMul, ruleE_val, ruleE_sz, signE_val, signE_sz, ledgerE_val, ledgerE_sz]; exact rfl) | (simp only [bse, wk, tys, storeH_ptr, Nat.reduceEqDiff, ↓reduceIte, reduceCtorEq, Nat.reduceAdd, Nat.reduceLeDiff, Int.reduceBEq, Int.reduceLT, Int.reduceLE, Int.reduceEq, ne_eq, not_false_eq_true, Nat.reduceMul, ruleE_val, ruleE_sz, signE_val, signE_sz, ledgerE_val, ledgerE_sz]; done) | (simp only [bse, wk, tys, storeH_ptr, Nat.reduceEqDiff, ↓reduceIte, reduceCtorEq, Nat.reduceAdd, Nat.reduceLeDiff, Int.reduceBEq, Int.reduceLT, Int.reduceLE, Int.reduceEq, ne_eq, not_false_eq_true, Nat.reduceMul, ruleE_val, ruleE_sz, signE_val, signE_sz, ledgerE_val, ledgerE_sz, *]; done)) (by first | exact fun _ => rfl | assumption | (intros; omega)) (by intros; omega) | refine Bor.ptrL (by first | (simp only [bse, wk, tys, storeH_ptr, Nat.reduceEqDiff, ↓reduceIte, reduceCtorEq, Nat.reduceAdd, Nat.reduceLeDiff, Int.reduceBEq, Int.reduceLT, Int.reduceLE, Int.reduceEq, ne_eq, not_false_eq_true, Nat.reduceMul, ruleE_val, ruleE_sz, signE_val, signE_sz, ledgerE_val, ledgerE_sz]; exact rfl) | (simp only [bse, wk, tys, storeH_ptr, Nat.reduceEqDiff, ↓reduceIte, reduceCtorEq, Nat.reduceAdd, Nat.reduceLeDiff, Int.reduceBEq, Int.reduceLT, Int.reduceLE, Int.reduceEq, ne_eq, not_false_eq_true, Nat.reduceMul, ruleE_val, ruleE_sz, signE_val, signE_sz, ledgerE_val, ledgerE_sz]; done) | (simp only [bse, wk, tys, storeH_ptr, Nat.reduceEqDiff, ↓reduceIte, reduceCtorEq, Nat.reduceAdd, Nat.reduceLeDiff, Int.reduceBEq, Int.reduceLT, Int.reduceLE, Int.reduceEq, ne_eq, not_false_eq_true, Nat.reduceMul, ruleE_val, ruleE_sz, signE_val, signE_sz, ledgerE_val, ledgerE_sz, *]; done)) rfl rfl ⟨_, ?_, (by first | (simp only [bse, wk, tys, storeH_ptr, Nat.reduceEqDiff, ↓reduceIte, reduceCtorEq, Nat.reduceAdd, Nat.reduceLeDiff, Int.reduceBEq, Int.reduceLT, Int.reduceLE, Int.reduceEq, ne_eq, not_false_eq_true, Nat.reduceMul, ruleE_val, ruleE_sz, signE_val, signE_sz, ledgerE_val, ledgerE_sz]; exact rfl) | (simp only [bse, wk, tys, storeH_ptr, Nat.reduceEqDiff, ↓reduceIte, reduceCtorEq, Nat.reduceAdd, Nat.reduceLeDiff, Int.reduceBEq, Int.reduceLT, Int.reduceLE, Int.reduceEq, ne_eq, not_false_eq_true, Nat.reduceMul, ruleE_val, ruleE_sz, signE_val, signE_sz, ledgerE_val, ledgerE_sz]; done) | (simp only [bse, wk, tys, storeH_ptr, Nat.reduceEqDiff, ↓reduceIte, reduceCtorEq, Nat.reduceAdd, Nat.reduceLeDiff, Int.reduceBEq, Int.reduceLT, Int.reduceLE, Int.reduceEq, ne_eq, not_false_eq_true, Nat.reduceMul, ruleE_val, ruleE_sz, signE_val, signE_sz, ledgerE_val, ledgerE_sz, *]; done))⟩ (by simp) | refine Bor.aggL ?_ | refine Bor.funcL ?_)); done)); (focus ((first | exact rfl | (simp [pureV, flatV, ruleE_val, ruleE_sz, signE_val, signE_sz, ledgerE_val, ledgerE_sz]; done))))) | (refine ACalls.ofP (spec_l2Fault r.keys r.need r.after (by omega)) ?_ ?_ ?_; (focus ((repeat' (first | exact BorL.nil | refine BorL.cons ?_ ?_ | exact Bor.same _ (by repeat' (first | exact Im.nilL | refine Im.consL ?_ ?_ | refine Im.appL ?_ ?_ | exact Im.flat _ rfl | exact islE_im _ _ | exact Enc.val_im _ _ | assumption | refine Im.aggL ?_ | refine Im.funcL ?_ | refine Im.funcA ?_ | refine Im.isl ?_ | refine Im.ip ?_)) | exact Bor.nil | exact Bor.sb (by first | (simp only [bse, wk, tys, storeH_ptr, Nat.reduceEqDiff, ↓reduceIte, reduceCtorEq, Nat.reduceAdd, Nat.reduceLeDiff, Int.reduceBEq, Int.reduceLT, Int.reduceLE, Int.reduceEq, ne_eq, not_false_eq_true, Nat.reduceMul, ruleE_val, ruleE_sz, signE_val, signE_sz, ledgerE_val, ledgerE_sz]; exact rfl) | (simp only [bse, wk, tys, storeH_ptr, Nat.reduceEqDiff, ↓reduceIte, reduceCtorEq, Nat.reduceAdd, Nat.reduceLeDiff, Int.reduceBEq, Int.reduceLT, Int.reduceLE, Int.reduceEq, ne_eq, not_false_eq_true, Nat.reduceMul, ruleE_val, ruleE_sz, signE_val, signE_sz, ledgerE_val, ledgerE_sz]; done) | (simp only [bse, wk, tys, storeH_ptr, Nat.reduceEqDiff, ↓reduceIte, reduceCtorEq, Nat.reduceAdd, Nat.reduceLeDiff, Int.reduceBEq, Int.reduceLT, Int.reduceLE, Int.reduceEq, ne_eq, not_false_eq_true, Nat.reduceMul, ruleE_val, ruleE_sz, signE_val, signE_sz, ledgerE_val, ledgerE_sz, *]; done)) (by first | exact fun _ => rfl | assumption | (intros; omega)) rfl | exact Bor.mks (by first | (simp only [bse, wk, tys, storeH_ptr, Nat.reduceEqDiff, ↓reduceIte, reduceCtorEq, Nat.reduceAdd, Nat.reduceLeDiff, Int.reduceBEq, Int.reduceLT, Int.reduceLE, Int.reduceEq, ne_eq, not_false_eq_true, Nat.reduceMul, ruleE_val, ruleE_sz, signE_val, signE_sz, ledgerE_val, ledgerE_sz]; exact rfl) | (simp only [bse, wk, tys, storeH_ptr, Nat.reduceEqDiff, ↓reduceIte, reduceCtorEq, Nat.reduceAdd, Nat.reduceLeDiff, Int.reduceBEq, Int.reduceLT, Int.reduceLE, Int.reduceEq, ne_eq, not_false_eq_true, Nat.reduceMul, ruleE_val, ruleE_sz, signE_val, signE_sz, ledgerE_val, ledgerE_sz]; done) | (simp only [bse, wk, tys, storeH_ptr, Nat.reduceEqDiff, ↓reduceIte, reduceCtorEq, Nat.reduceAdd, Nat.reduceLeDiff, Int.reduceBEq, Int.reduceLT, Int.reduceLE, Int.reduceEq, ne_eq, not_false_eq_true, Nat.reduceMul, ruleE_val, ruleE_sz, signE_val, signE_sz, ledgerE_val, ledgerE_sz, *]; done)) (by first | exact fun _ => rfl | assumption | (intros; omega)) (by intros; omega) | refine Bor.ptrL (by first | (simp only [bse, wk, tys, storeH_ptr, Nat.reduceEqDiff, ↓reduceIte, reduceCtorEq, Nat.reduceAdd, Nat.reduceLeDiff, Int.reduceBEq, Int.reduceLT, Int.reduceLE, Int.reduceEq, ne_eq, not_false_eq_true, Nat.reduceMul, ruleE_val, ruleE_sz, signE_val, signE_sz, ledgerE_val, ledgerE_sz]; exact rfl) | (simp only [bse, wk, tys, storeH_ptr, Nat.reduceEqDiff, ↓reduceIte, reduceCtorEq, Nat.reduceAdd, Nat.reduceLeDiff, Int.reduceBEq, Int.reduceLT, Int.reduceLE, Int.reduceEq, ne_eq, not_false_eq_true, Nat.reduceMul, ruleE_val, ruleE_sz, signE_val, signE_sz, ledgerE_val, ledgerE_sz]; done) | (simp only [bse, wk, tys, storeH_ptr, Nat.reduceEqDiff, ↓reduceIte, reduceCtorEq, Nat.reduceAdd, Nat.reduceLeDiff, Int.reduceBEq, Int.reduceLT, Int.reduceLE, Int.reduceEq, ne_eq, not_false_eq_true, Nat.reduceMul, ruleE_val, ruleE_sz, signE_val, signE_sz, ledgerE_val, ledgerE_sz, *]; done)) rfl rfl ⟨_, ?_, (by first | (simp only [bse, wk, tys, storeH_ptr, Nat.reduceEqDiff, ↓reduceIte, reduceCtorEq, Nat.reduceAdd, Nat.reduceLeDiff, Int.reduceBEq, Int.reduceLT, Int.reduceLE, Int.reduceEq, ne_eq, not_false_eq_true, Nat.reduceMul, ruleE_val, ruleE_sz, signE_val, signE_sz, ledgerE_val, ledgerE_sz]; exact rfl) | (simp only [bse, wk, tys, storeH_ptr, Nat.reduceEqDiff, ↓reduceIte, reduceCtorEq, Nat.reduceAdd, Nat.reduceLeDiff, Int.reduceBEq, Int.reduceLT, Int.reduceLE, Int.reduceEq, ne_eq, not_false_eq_true, Nat.reduceMul, ruleE_val, ruleE_sz, signE_val, signE_sz, ledgerE_val, ledgerE_sz]; done) | (simp only [bse, wk, tys, storeH_ptr, Nat.reduceEqDiff, ↓reduceIte, reduceCtorEq, Nat.reduceAdd, Nat.reduceLeDiff, Int.reduceBEq, Int.reduceLT, Int.reduceLE, Int.reduceEq, ne_eq, not_false_eq_true, Nat.reduceMul, ruleE_val, ruleE_sz, signE_val, signE_sz, ledgerE_val, ledgerE_sz, *]; done))⟩ (by simp) | refine Bor.aggL ?_ | refine Bor.funcL ?_)); done)); (focus ((first | exact rfl | (simp [pureV, flatV, ruleE_val, ruleE_sz, signE_val, signE_sz, ledgerE_val, ledgerE_sz]; done))))) | (refine ACalls.ofP (spec_l1Id l id) ?_ ?_ ?_; (focus ((repeat' (first | exact BorL.nil | refine BorL.cons ?_ ?_ | exact Bor.same _ (by repeat' (first | exact Im.nilL | refine Im.consL ?_ ?_ | refine Im.appL ?_ ?_ | exact Im.flat _ rfl | exact islE_im _ _ | exact Enc.val_im _ _ | assumption | refine Im.aggL ?_ | refine Im.funcL ?_ | refine Im.funcA ?_ | refine Im.isl ?_ | refine Im.ip ?_)) | exact Bor.nil | exact Bor.sb (by first | (simp only [bse, wk, tys, storeH_ptr, Nat.reduceEqDiff, ↓reduceIte, reduceCtorEq, Nat.reduceAdd, Nat.reduceLeDiff, Int.reduceBEq, Int.reduceLT, Int.reduceLE, Int.reduceEq, ne_eq, not_false_eq_true, Nat.reduceMul, ruleE_val, ruleE_sz, signE_val, signE_sz, ledgerE_val, ledgerE_sz]; exact rfl) | (simp only [bse, wk, tys, storeH_ptr, Nat.reduceEqDiff, ↓reduceIte, reduceCtorEq, Nat.reduceAdd, Nat.reduceLeDiff, Int.reduceBEq, Int.reduceLT, Int.reduceLE, Int.reduceEq, ne_eq, not_false_eq_true, Nat.reduceMul, ruleE_val, ruleE_sz, signE_val, signE_sz, ledgerE_val, ledgerE_sz]; done) | (simp only [bse, wk, tys, storeH_ptr, Nat.reduceEqDiff, ↓reduceIte, reduceCtorEq, Nat.reduceAdd, Nat.reduceLeDiff, Int.reduceBEq, Int.reduceLT, Int.reduceLE, Int.reduceEq, ne_eq, not_false_eq_true, Nat.reduceMul, ruleE_val, ruleE_sz, signE_val, signE_sz, ledgerE_val, ledgerE_sz, *]; done)) (by first | exact fun _ => rfl | assumption | (intros; omega)) rfl | exact Bor.mks (by first | (simp only [bse, wk, tys, storeH_ptr, Nat.reduceEqDiff, ↓reduceIte, reduceCtorEq, Nat.reduceAdd, Nat.reduceLeDiff, Int.reduceBEq, Int.reduceLT, Int.reduceLE, Int.reduceEq, ne_eq, not_false_eq_true, Nat.reduceMul, ruleE_val, ruleE_sz, signE_val, signE_sz, ledgerE_val, ledgerE_sz]; exact rfl) | (simp only [bse, wk, tys, storeH_ptr, Nat.reduceEqDiff, ↓reduceIte, reduceCtorEq, Nat.reduceAdd, Nat.reduceLeDiff, Int.reduceBEq, Int.reduceLT, Int.reduceLE, Int.reduceEq, ne_eq, not_false_eq_true, Nat.reduceMul, ruleE_val, ruleE_sz, signE_val, signE_sz, ledgerE_val, ledgerE_sz]; done) | (simp only [bse, wk, tys, storeH_ptr, Nat.reduceEqDiff, ↓reduceIte, reduceCtorEq, Nat.reduceAdd, Nat.reduceLeDiff, Int.reduceBEq, Int.reduceLT, Int.reduceLE, Int.reduceEq, ne_eq, not_false_eq_true, Nat.reduceMul, ruleE_val, ruleE_sz, signE_val, signE_sz, ledgerE_val, ledgerE_sz, *]; done)) (by first | exact fun _ => rfl | assumption | (intros; omega)) (by intros; omega) | refine Bor.ptrL (by first | (simp only [bse, wk, tys, storeH_ptr, Nat.reduceEqDiff, ↓reduceIte, reduceCtorEq, Nat.reduceAdd, Nat.reduceLeDiff, Int.reduceBEq, Int.reduceLT, Int.reduceLE, Int.reduceEq, ne_eq, not_false_eq_true, Nat.reduceMul, ruleE_val, ruleE_sz, signE_val, signE_sz, ledgerE_val, ledgerE_sz]; exact rfl) | (simp only [bse, wk, tys, storeH_ptr, Nat.reduceEqDiff, ↓reduceIte, reduceCtorEq, Nat.reduceAdd, Nat.reduceLeDiff, Int.reduceBEq, Int.reduceLT, Int.reduceLE, Int.reduceEq, ne_eq, not_false_eq_true, Nat.reduceMul, ruleE_val, ruleE_sz, signE_val, signE_sz, ledgerE_val, ledgerE_sz]; done) | (simp only [bse, wk, tys, storeH_ptr, Nat.reduceEqDiff, ↓reduceIte, reduceCtorEq, Nat.reduceAdd, Nat.reduceLeDiff, Int.reduceBEq, Int.reduceLT, Int.reduceLE, Int.reduceEq, ne_eq, not_false_eq_true, Nat.reduceMul, ruleE_val, ruleE_sz, signE_val, signE_sz, ledgerE_val, ledgerE_sz, *]; done)) rfl rfl ⟨_, ?_, (by first | (simp only [bse, wk, tys, storeH_ptr, Nat.reduceEqDiff, ↓reduceIte, reduceCtorEq, Nat.reduceAdd, Nat.reduceLeDiff, Int.reduceBEq, Int.reduceLT, Int.reduceLE, Int.reduceEq, ne_eq, not_false_eq_true, Nat.reduceMul, ruleE_val, ruleE_sz, signE_val, signE_sz, ledgerE_val, ledgerE_sz]; exact rfl) | (simp only [bse, wk, tys, storeH_ptr, Nat.reduceEqDiff, ↓reduceIte, reduceCtorEq, Nat.reduceAdd, Nat.reduceLeDiff, Int.reduceBEq, Int.reduceLT, Int.reduceLE, Int.reduceEq, ne_eq, not_false_eq_true, Nat.reduceMul, ruleE_val, ruleE_sz, signE_val, signE_sz, ledgerE_val, ledgerE_sz]; done) | (simp only [bse, wk, tys, storeH_ptr, Nat.reduceEqDiff, ↓reduceIte, reduceCtorEq, Nat.reduceAdd, Nat.reduceLeDiff, Int.reduceBEq, Int.reduceLT, Int.reduceLE, Int.reduceEq, ne_eq, not_false_eq_true, Nat.reduceMul, ruleE_val, ruleE_sz, signE_val, signE_sz, ledgerE_val, ledgerE_sz, *]; done))⟩ (by simp) | refine Bor.aggL ?_ | refine Bor.funcL ?_)); done)); (focus ((first | exact rfl | (simp [pureV, flatV, ruleE_val, ruleE_sz, signE_val, signE_sz, ledgerE_val, ledgerE_sz]; done))))) | (refine ACalls.ofJi (spec_l2Height _) rfl ?_) | (refine ACalls.ofP (spec_l2Met l r id height h2 h3) ?_ ?_ ?_; (focus ((repeat' (first | exact BorL.nil | refine BorL.cons ?_ ?_ | exact Bor.same _ (by repeat' (first | exact Im.nilL | refine Im.consL ?_ ?_ | refine Im.appL ?_ ?_ | exact Im.flat _ rfl | exact islE_im _ _ | exact Enc.val_im _ _ | assumption | refine Im.aggL ?_ | refine Im.funcL ?_ | refine Im.funcA ?_ | refine Im.isl ?_ | refine Im.ip ?_)) | exact Bor.nil | exact Bor.sb (by first | (simp only [bse, wk, tys, storeH_ptr, Nat.reduceEqDiff, ↓reduceIte, reduceCtorEq, Nat.reduceAdd, Nat.reduceLeDiff, Int.reduceBEq, Int.reduceLT, Int.reduceLE, Int.reduceEq, ne_eq, not_false_eq_true, Nat.reduceMul, ruleE_val, ruleE_sz, signE_val, signE_sz, ledgerE_val, ledgerE_sz]; exact rfl) | (simp only [bse, wk, tys, storeH_ptr, Nat.reduceEqDiff, ↓reduceIte, reduceCtorEq, Nat.reduceAdd, Nat.reduceLeDiff, Int.reduceBEq, Int.reduceLT, Int.reduceLE, Int.reduceEq, ne_eq, not_false_eq_true, Nat.reduceMul, ruleE_val, ruleE_sz, signE_val, signE_sz, ledgerE_val, ledgerE_sz]; done) | (simp only [bse, wk, tys, storeH_ptr, Nat.reduceEqDiff, ↓reduceIte, reduceCtorEq, Nat.reduceAdd, Nat.reduceLeDiff, Int.reduceBEq, Int.reduceLT, Int.reduceLE, Int.reduceEq, ne_eq, not_false_eq_true, Nat.reduceMul, ruleE_val, ruleE_sz, signE_val, signE_sz, ledgerE_val, ledgerE_sz, *]; done)) (by first | exact fun _ => rfl | assumption | (intros; omega)) rfl | exact Bor.mks (by first | (simp only [bse, wk, tys, storeH_ptr, Nat.reduceEqDiff, ↓reduceIte, reduceCtorEq, Nat.reduceAdd, Nat.reduceLeDiff, Int.reduceBEq, Int.reduceLT, Int.reduceLE, Int.reduceEq, ne_eq, not_false_eq_true, Nat.reduceMul, ruleE_val, ruleE_sz, signE_val, signE_sz, ledgerE_val, ledgerE_sz]; exact rfl) | (simp only [bse, wk, tys, storeH_ptr, Nat.reduceEqDiff, ↓reduceIte, reduceCtorEq, Nat.reduceAdd, Nat.reduceLeDiff, Int.reduceBEq, Int.reduceLT, Int.reduceLE, Int.reduceEq, ne_eq, not_false_eq_true, Nat.reduceMul, ruleE_val, ruleE_sz, signE_val, signE_sz, ledgerE_val, ledgerE_sz]; done) | (simp only [bse, wk, tys, storeH_ptr, Nat.reduceEqDiff, ↓reduceIte, reduceCtorEq, Nat.reduceAdd, Nat.reduceLeDiff, Int.reduceBEq, Int.reduceLT, Int.reduceLE, Int.reduceEq, ne_eq, not_false_eq_true, Nat.reduceMul, ruleE_val, ruleE_sz, signE_val, signE_sz, ledgerE_val, ledgerE_sz, *]; done)) (by first | exact fun _ => rfl | assumption | (intros; omega)) (by intros; omega) | refine Bor.ptrL (by first | (simp only [bse, wk, tys, storeH_ptr, Nat.reduceEqDiff, ↓reduceIte, reduceCtorEq, Nat.reduceAdd, Nat.reduceLeDiff, Int.reduceBEq, Int.reduceLT, Int.reduceLE, Int.reduceEq, ne_eq, not_false_eq_true, Nat.reduceMul, ruleE_val, ruleE_sz, signE_val, signE_sz, ledgerE_val, ledgerE_sz]; exact rfl) | (simp only [bse, wk, tys, storeH_ptr, Nat.reduceEqDiff, ↓reduceIte, reduceCtorEq, Nat.reduceAdd, Nat.reduceLeDiff, Int.reduceBEq, Int.reduceLT, Int.reduceLE, Int.reduceEq, ne_eq, not_false_eq_true, Nat.reduceMul, ruleE_val, ruleE_sz, signE_val, signE_sz, ledgerE_val, ledgerE_sz]; done) | (simp only [bse, wk, tys, storeH_ptr, Nat.reduceEqDiff, ↓reduceIte, reduceCtorEq, Nat.reduceAdd, Nat.reduceLeDiff, Int.reduceBEq, Int.reduceLT, Int.reduceLE, Int.reduceEq, ne_eq, not_false_eq_true, Nat.reduceMul, ruleE_val, ruleE_sz, signE_val, signE_sz, ledgerE_val, ledgerE_sz, *]; done)) rfl rfl ⟨_, ?_, (by first | (simp only [bse, wk, tys, storeH_ptr, Nat.reduceEqDiff, ↓reduceIte, reduceCtorEq, Nat.reduceAdd, Nat.reduceLeDiff, Int.reduceBEq, Int.reduceLT, Int.reduceLE, Int.reduceEq, ne_eq, not_false_eq_true, Nat.reduceMul, ruleE_val, ruleE_sz, signE_val, signE_sz, ledgerE_val, ledgerE_sz]; exact rfl) | (simp only [bse, wk, tys, storeH_ptr, Nat.reduceEqDiff, ↓reduceIte, reduceCtorEq, Nat.reduceAdd, Nat.reduceLeDiff, Int.reduceBEq, Int.reduceLT, Int.reduceLE, Int.reduceEq, ne_eq, not_false_eq_true, Nat.reduceMul, ruleE_val, ruleE_sz, signE_val, signE_sz, ledgerE_val, ledgerE_sz]; done) | (simp only [bse, wk, tys, storeH_ptr, Nat.reduceEqDiff, ↓reduceIte, reduceCtorEq, Nat.reduceAdd, Nat.reduceLeDiff, Int.reduceBEq, Int.reduceLT, Int.reduceLE, Int.reduceEq, ne_eq, not_false_eq_true, Nat.reduceMul, ruleE_val, ruleE_sz, signE_val, signE_sz, ledgerE_val, ledgerE_sz, *]; done))⟩ (by simp) | refine Bor.aggL ?_ | refine Bor.funcL ?_)); done)); (focus ((first | exact rfl | (simp [pureV, flatV, ruleE_val, ruleE_sz, signE_val, signE_sz, ledgerE_val, ledgerE_sz]; done)))))) | (refine KV.run _ ?_) | (refine KT.run _ ?_) | (refine AWp.seqH fun KC => ?_) | (refine AWp.region ?_) | (refine AWp.ret ?_) | (refine AWp.skip ?_) | (refine aops_callH rfl fun kC => ?_) | (refine AWp.condB ?_) | (simp only [bse, wk, tys, storeH_ptr, Nat.reduceEqDiff, ↓reduceIte, reduceCtorEq, Nat.reduceAdd, Nat.reduceLeDiff, Int.reduceBEq, Int.reduceLT, Int.reduceLE, Int.reduceEq, ne_eq, not_false_eq_true, Nat.reduceMul, ruleE_val, ruleE_sz, signE_val, signE_sz, ledgerE_val, ledgerE_sz, *]))
end Go.BM
/- The text of a rule: the program. -/
set_option linter.unusedVariables false
set_option linter.unusedSimpArgs false
set_option maxRecDepth 100000
set_option maxHeartbeats 4000000
namespace Go.BM
open Go.Proofs Go.RowKit
attribute [local irreducible] ACalls AWp aops qops optK optP cK gateA condK mops qcallK PCalls loadV fldV idxV lenV slV storeH binS
/-- What a right rule's numbers are. -/
theorem rf_bounds {xs : List Int} {need after : Int} (h : ruleFault xs need after = 0) : (1 ≤ xs.length ∧ xs.length ≤ 3) ∧ (1 ≤ need ∧ need ≤ 3) ∧ (0 ≤ after ∧ after ≤ 999) ∧ ∀ x ∈ xs, 1 ≤ x ∧ x ≤ 999 := by
  unfold ruleFault at h
  split at h
  · simp at h
  rename_i h1
  split at h
  · simp at h
  rename_i h2
  have g1 : 1 ≤ xs.length ∧ xs.length ≤ 3 := by unfold inB at h1; simp at h1; omega
  have g2 : keysB xs = true ∧ inB need 1 xs.length = true ∧ inB after 0 999 = true := by
    cases hk : keysB xs <;> cases hn : inB need 1 xs.length <;> cases ha : inB after 0 999 <;> simp_all
  obtain ⟨hk, hn, ha⟩ := g2
  refine ⟨g1, by unfold inB at hn; simp at hn; omega, by unfold inB at ha; simp at ha; omega, fun x hx => ?_⟩
  unfold keysB at hk
  have := List.all_eq_true.1 hk x hx
  unfold inB at this
  simp at this
  omega
/-- The text of a rule, with c between. -/
def ruleT (c : UInt8) (r : TRule) : List UInt8 :=
  Lib.itoa r.need ++ [c] ++ [111, 102] ++ [c] ++ joinI 44 r.keys ++ (if r.after = 0 then [] else [c] ++ [97, 102, 116, 101, 114] ++ [c] ++ Lib.itoa r.after)
theorem impl_ruleText (r : TRule) (c : UInt8) (hr : ruleFault r.keys r.need r.after = 0) : PCalls Tryz.prog 33 [ruleE.val r, .string (bs [c])] (.string (bs (ruleT c r))) := by
  obtain ⟨h1, h2, h3, h4⟩ := rf_bounds hr
  have hj := impl_joined r.keys 44 (fun x hx => by have := h4 x hx; omega) (by omega)
  have hjl := joinI_len 44 r.keys (fun x hx => by have := h4 x hx; omega)
  have hd1 := lib_dec r.need (by omega) (by omega)
  have hl1 := itoa_len (x := r.need) (by omega) (by omega)
  have hd2 := lib_dec r.after (by omega) (by omega)
  have hl2 := itoa_len (x := r.after) (by omega) (by omega)
  obtain ⟨keys, need, after⟩ := r
  dsimp only at *
  unfold ruleT
  dsimp only
  have hjl' : (joinI 44 keys).length ≤ 12 := by omega
  have hd1' : PCalls Tryz.prog 55 [.int .i64 need] (.string (bs (Lib.itoa need))) := hd1
  have hd2' : PCalls Tryz.prog 55 [.int .i64 after] (.string (bs (Lib.itoa after))) := hd2
  clear hd1 hd2 hjl h4 hr
  generalize joinI 44 keys = J at hj hjl' ⊢
  generalize Lib.itoa need = N1 at hd1' hl1 ⊢
  generalize Lib.itoa after = N2 at hd2' hl2 ⊢
  obtain ⟨X1, hX1⟩ : ∃ X1, X1 = N1 ++ [c] := ⟨_, rfl⟩
  obtain ⟨X2, hX2⟩ : ∃ X2, X2 = X1 ++ [111, 102] := ⟨_, rfl⟩
  obtain ⟨X3, hX3⟩ : ∃ X3, X3 = X2 ++ [c] := ⟨_, rfl⟩
  obtain ⟨X4, hX4⟩ : ∃ X4, X4 = X3 ++ J := ⟨_, rfl⟩
  have l1 : X1.length ≤ 4 := by rw [hX1]; simp; omega
  have l2 : X2.length ≤ 6 := by rw [hX2]; simp; omega
  have l3 : X3.length ≤ 7 := by rw [hX3]; simp; omega
  have l4 : X4.length ≤ 19 := by rw [hX4]; simp; omega
  have a1 : ∀ xo yo, binS Tryz.prog .add 9 xo yo (.string (bs N1)) (.string (bs [c])) = some (.string (bs X1)) := fun xo yo => by
    rw [hX1]; exact bin_sadd _ _ _ N1 [c] (by simp; omega)
  have a2 : ∀ xo yo, binS Tryz.prog .add 9 xo yo (.string (bs X1)) (.string ⟨#[111, 102]⟩) = some (.string (bs X2)) := fun xo yo => by
    rw [hX2]; exact bin_sadd _ _ _ X1 [111, 102] (by simp; omega)
  have a3 : ∀ xo yo, binS Tryz.prog .add 9 xo yo (.string (bs X2)) (.string (bs [c])) = some (.string (bs X3)) := fun xo yo => by
    rw [hX3]; exact bin_sadd _ _ _ X2 [c] (by simp; omega)
  have a4 : ∀ xo yo, binS Tryz.prog .add 9 xo yo (.string (bs X3)) (.string (bs J)) = some (.string (bs X4)) := fun xo yo => by
    rw [hX4]; exact bin_sadd _ _ _ X3 J (by omega)
  have hT : N1 ++ [c] ++ [111, 102] ++ [c] ++ J = X4 := by rw [hX4, hX3, hX2, hX1]
  rw [hT]
  clear hT hX1 hX2 hX3 hX4
  by_cases h0 : after = 0
  · rw [if_pos h0, List.append_nil]
    subst h0
    refine PCalls.flat rfl ?_; refine ACalls.enter (n := 32) (rs := [.tmp 4]) Tryz.func33 rfl rfl rfl (by kernel_rfl) (by kernel_rfl) (by kernel_rfl) (Nat.le_of_ble_eq_true rfl) ?_
    repeat' (first | (refine AWp.quiet (id := 1) (by kernel_rfl) (by kernel_rfl) ?_) | (refine ACalls.start ?_; first | (refine ACalls.ofJi (hd1') rfl ?_) | (refine ACalls.ofJi (hj) rfl ?_) | (refine ACalls.ofJi (hd2') rfl ?_)) | (refine qcall_start ?_; first | (refine qcallFi (hd1') rfl ?_ ?_; (focus ((first | exact rfl | (simp [pureV, flatV, ruleE_val, ruleE_sz]; done))))) | (refine qcallFi (hj) rfl ?_ ?_; (focus ((first | exact rfl | (simp [pureV, flatV, ruleE_val, ruleE_sz]; done))))) | (refine qcallFi (hd2') rfl ?_ ?_; (focus ((first | exact rfl | (simp [pureV, flatV, ruleE_val, ruleE_sz]; done)))))) | (refine KV.run _ ?_) | (refine KQ.run _ ?_) | (refine KT.run _ ?_) | (refine AWp.seqH fun KC => ?_) | (refine AWp.block ?_) | (refine AWp.region ?_) | (refine mops_step0 rfl rfl fun KC => ?_) | (refine mops_step1 rfl fun KC => ?_) | (refine mops_step2 rfl fun KC => ?_) | (refine AWp.ret ?_) | (refine AWp.skip ?_) | (refine AWp.exit ?_) | (refine aops_callH rfl fun kC => ?_) | (refine qops_callH rfl fun kC => ?_) | (refine AWp.condB ?_) | (simp only [bse, wk, tys, storeH_ptr, Nat.reduceEqDiff, ↓reduceIte, reduceCtorEq, Nat.reduceAdd, Nat.reduceLeDiff, Int.reduceBEq, Int.reduceLT, Int.reduceLE, Int.reduceEq, ne_eq, not_false_eq_true, Nat.reduceMul, ruleE_val, ruleE_sz, *]) | (refine condK_bool (fun hb => ?_) (fun hb => ?_) <;> ((try simp only [Bool.not_eq_true', Bool.not_eq_false'] at hb) <;> (try (have hbe := of_decide_eq_true hb)) <;> (try (have hbe := eq_of_beq hb)))) | (refine aops_partB ?_) | (refine qops_partB ?_))
  · rw [if_neg h0]
    have h0' : (after == 0) = false := by simpa using h0
    obtain ⟨Y1, hY1⟩ : ∃ Y1, Y1 = [c] ++ [97, 102, 116, 101, 114] := ⟨_, rfl⟩
    obtain ⟨Y2, hY2⟩ : ∃ Y2, Y2 = Y1 ++ [c] := ⟨_, rfl⟩
    obtain ⟨Y3, hY3⟩ : ∃ Y3, Y3 = Y2 ++ N2 := ⟨_, rfl⟩
    have m1 : Y1.length ≤ 6 := by rw [hY1]; simp
    have m2 : Y2.length ≤ 7 := by rw [hY2]; simp; omega
    have m3 : Y3.length ≤ 10 := by rw [hY3]; simp; omega
    have b1 : ∀ xo yo, binS Tryz.prog .add 9 xo yo (.string (bs [c])) (.string ⟨#[97, 102, 116, 101, 114]⟩) = some (.string (bs Y1)) := fun xo yo => by
      rw [hY1]; exact bin_sadd _ _ _ [c] [97, 102, 116, 101, 114] (by simp)
    have b2 : ∀ xo yo, binS Tryz.prog .add 9 xo yo (.string (bs Y1)) (.string (bs [c])) = some (.string (bs Y2)) := fun xo yo => by
      rw [hY2]; exact bin_sadd _ _ _ Y1 [c] (by simp; omega)
    have b3 : ∀ xo yo, binS Tryz.prog .add 9 xo yo (.string (bs Y2)) (.string (bs N2)) = some (.string (bs Y3)) := fun xo yo => by
      rw [hY3]; exact bin_sadd _ _ _ Y2 N2 (by omega)
    have b4 : ∀ xo yo, binS Tryz.prog .add 9 xo yo (.string (bs X4)) (.string (bs Y3)) = some (.string (bs (X4 ++ Y3))) := fun xo yo => bin_sadd _ _ _ X4 Y3 (by omega)
    rw [← hY1, ← hY2, ← hY3]
    clear hY1 hY2 hY3
    refine PCalls.flat rfl ?_; refine ACalls.enter (n := 32) (rs := [.tmp 4]) Tryz.func33 rfl rfl rfl (by kernel_rfl) (by kernel_rfl) (by kernel_rfl) (Nat.le_of_ble_eq_true rfl) ?_
    repeat' (first | (refine AWp.quiet (id := 1) (by kernel_rfl) (by kernel_rfl) ?_) | (refine ACalls.start ?_; first | (refine ACalls.ofJi (hd1') rfl ?_) | (refine ACalls.ofJi (hj) rfl ?_) | (refine ACalls.ofJi (hd2') rfl ?_)) | (refine qcall_start ?_; first | (refine qcallFi (hd1') rfl ?_ ?_; (focus ((first | exact rfl | (simp [pureV, flatV, ruleE_val, ruleE_sz]; done))))) | (refine qcallFi (hj) rfl ?_ ?_; (focus ((first | exact rfl | (simp [pureV, flatV, ruleE_val, ruleE_sz]; done))))) | (refine qcallFi (hd2') rfl ?_ ?_; (focus ((first | exact rfl | (simp [pureV, flatV, ruleE_val, ruleE_sz]; done)))))) | (refine KV.run _ ?_) | (refine KQ.run _ ?_) | (refine KT.run _ ?_) | (refine AWp.seqH fun KC => ?_) | (refine AWp.block ?_) | (refine AWp.region ?_) | (refine mops_step0 rfl rfl fun KC => ?_) | (refine mops_step1 rfl fun KC => ?_) | (refine mops_step2 rfl fun KC => ?_) | (refine AWp.ret ?_) | (refine AWp.skip ?_) | (refine AWp.exit ?_) | (refine aops_callH rfl fun kC => ?_) | (refine qops_callH rfl fun kC => ?_) | (refine AWp.condB ?_) | (simp only [bse, wk, tys, storeH_ptr, Nat.reduceEqDiff, ↓reduceIte, reduceCtorEq, Nat.reduceAdd, Nat.reduceLeDiff, Int.reduceBEq, Int.reduceLT, Int.reduceLE, Int.reduceEq, ne_eq, not_false_eq_true, Nat.reduceMul, ruleE_val, ruleE_sz, *]) | (refine condK_bool (fun hb => ?_) (fun hb => ?_) <;> ((try simp only [Bool.not_eq_true', Bool.not_eq_false'] at hb) <;> (try (have hbe := of_decide_eq_true hb)) <;> (try (have hbe := eq_of_beq hb)))) | (refine aops_partB ?_) | (refine qops_partB ?_))
end Go.BM
/- Transactions: what a right one's numbers are; its words; texts joined. -/
set_option linter.unusedVariables false
set_option linter.unusedSimpArgs false
set_option maxRecDepth 100000
set_option maxHeartbeats 4000000
namespace Go.BM
open Go.Proofs Go.RowKit
attribute [local irreducible] ACalls AWp aops qops optK optP cK gateA condK mops qcallK PCalls loadV fldV idxV lenV slV storeH binS
theorem dec_len7 {u : Nat} (h : u ≤ 9999999) : (Lib.decDigits u).length ≤ 7 := by
  have step : ∀ (k u : Nat), (∀ v, v < 10 ^ k → (Lib.decDigits v).length ≤ k) → u < 10 ^ (k + 1) → 1 ≤ k → (Lib.decDigits u).length ≤ k + 1 := fun k u ih hu hk => by
    by_cases h1 : u < 10
    · rw [Lib.decDigits, dif_pos h1]; simp
    · rw [Lib.decDigits, dif_neg h1]
      have := ih (u / 10) (by rw [Nat.pow_succ] at hu; omega)
      simp
      omega
  have s1 : ∀ v, v < 10 ^ 1 → (Lib.decDigits v).length ≤ 1 := fun v hv => by rw [Lib.decDigits, dif_pos (by omega)]; simp
  have s2 : ∀ v, v < 10 ^ 2 → (Lib.decDigits v).length ≤ 2 := fun v hv => step 1 v s1 hv (by omega)
  have s3 : ∀ v, v < 10 ^ 3 → (Lib.decDigits v).length ≤ 3 := fun v hv => step 2 v s2 hv (by omega)
  have s4 : ∀ v, v < 10 ^ 4 → (Lib.decDigits v).length ≤ 4 := fun v hv => step 3 v s3 hv (by omega)
  have s5 : ∀ v, v < 10 ^ 5 → (Lib.decDigits v).length ≤ 5 := fun v hv => step 4 v s4 hv (by omega)
  have s6 : ∀ v, v < 10 ^ 6 → (Lib.decDigits v).length ≤ 6 := fun v hv => step 5 v s5 hv (by omega)
  exact step 6 u s6 (by omega) (by omega)
theorem ruleT_len (c : UInt8) {r : TRule} (hr : ruleFault r.keys r.need r.after = 0) : (ruleT c r).length ≤ 40 := by
  obtain ⟨h1, h2, h3, h4⟩ := rf_bounds hr
  have hjl := joinI_len 44 r.keys (fun x hx => by have := h4 x hx; omega)
  have hl1 := itoa_len (x := r.need) (by omega) (by omega)
  have hl2 := itoa_len (x := r.after) (by omega) (by omega)
  unfold ruleT
  split <;> simp <;> omega
end Go.BM
/- The text of a number and of a rule: the reference. -/
set_option linter.unusedVariables false
set_option linter.unusedSimpArgs false
set_option maxRecDepth 100000
set_option maxHeartbeats 4000000
namespace Go.BM
open Go.Proofs Go.RowKit
attribute [local irreducible] ACalls AWp aops qops optK optP cK gateA condK mops qcallK PCalls loadV fldV idxV lenV slV storeH binS
theorem spec_l2Digits : ∀ n : Nat, n ≤ 1000000000 → PCalls Tryz.prog 51 [.int .i64 (n : Int)] (.string (bs (Lib.decDigits n))) := by
  intro n
  induction n using Nat.strongRecOn with
  | _ n ih =>
    intro hn
    have hdg := digit_u8 n
    by_cases h : n < 10
    · have h' : (n : Int) < 10 := by omega
      have e1 : ((n : Int)).tmod 10 = n := Int.tmod_eq_of_lt (by omega) (by omega)
      have e2 : n % 10 = n := Nat.mod_eq_of_lt h
      rw [e1, e2] at hdg
      rw [Lib.decDigits, dif_pos h]
      have ht : ((48 + n : Nat) : Int).toNat = 48 + n := Int.toNat_natCast _
      clear ih e1 e2
      refine PCalls.flat rfl ?_; refine ACalls.enter (n := 20) (rs := [.tmp 2]) Tryz.func51 rfl rfl rfl (by kernel_rfl) (by kernel_rfl) (by kernel_rfl) (Nat.le_of_ble_eq_true rfl) ?_
      repeat' (first | (refine AWp.mixedT (id := 3) (.cons 0 0 (.cons 1 0 (.cons 3 0 (.cons 4 0 (.cons 5 0 (.cons 6 0 (.alt 2 1 (.cons 7 1 (.cons 8 0 (.cons 9 0 (.cons 10 0 .nil)))) (.cons 7 1 (.cons 8 0 (.cons 2 1 (.cons 9 0 (.cons 10 0 .nil)))))))))))) (by kernel_rfl) (by kernel_rfl) ?_) | (refine mopsT_step0 rfl rfl fun KC => ?_) | (refine mopsT_step1 rfl fun KC => ?_) | (refine mopsT_step2 rfl fun KC => ?_) | (refine mopsT_alt1 rfl (fun KC => ?_) ?_) | (refine mopsT_alt2 rfl (fun KC => ?_) ?_) | (refine KV.run _ ?_) | (refine KQ.run _ ?_) | (refine KT.run _ ?_) | (refine AWp.seqH fun KC => ?_) | (refine AWp.block ?_) | (refine AWp.region ?_) | (refine mops_step0 rfl rfl fun KC => ?_) | (refine mops_step1 rfl fun KC => ?_) | (refine mops_step2 rfl fun KC => ?_) | (refine AWp.ret ?_) | (refine AWp.skip ?_) | (refine AWp.exit ?_) | (refine aops_callH rfl fun kC => ?_) | (refine qops_callH rfl fun kC => ?_) | (refine AWp.condB ?_) | (simp only [bse, wk, tys, storeH_ptr, Nat.reduceEqDiff, ↓reduceIte, reduceCtorEq, Nat.reduceAdd, Nat.reduceLeDiff, Int.reduceBEq, Int.reduceLT, Int.reduceLE, Int.reduceEq, ne_eq, not_false_eq_true, Nat.reduceMul, ruleE_val, ruleE_sz, *]) | (refine condK_bool (fun hb => ?_) (fun hb => ?_) <;> ((try simp only [Bool.not_eq_true', Bool.not_eq_false'] at hb) <;> (try (have hbe := of_decide_eq_true hb)) <;> (try (have hbe := eq_of_beq hb)))) | (refine aops_partB ?_) | (refine qops_partB ?_))
    · have h' : ¬ (n : Int) < 10 := by omega
      have h1 := ih (n / 10) (by omega) (by omega)
      have hq : IntKind.i64.wrap (((n : Int)).tdiv 10) = ((n / 10 : Nat) : Int) := by
        rw [show ((n : Int)).tdiv 10 = ((n / 10 : Nat) : Int) from rfl]
        exact wr (by omega) (by omega)
      have ht : ((48 + n % 10 : Nat) : Int).toNat = 48 + n % 10 := Int.toNat_natCast _
      have hl : ∀ (k m : Nat), m < 10 ^ k → 1 ≤ k → (Lib.decDigits m).length ≤ k := fun k => by
        induction k with
        | zero => intro m _ h0; omega
        | succ k ihk =>
          intro m hm _
          by_cases h1 : m < 10
          · rw [Lib.decDigits, dif_pos h1]; simp
          · rw [Lib.decDigits, dif_neg h1]
            by_cases hk : k = 0
            · subst hk; omega
            · have := ihk (m / 10) (by rw [Nat.pow_succ] at hm; omega) (by omega)
              simp
              omega
      have hl1 := hl 10 (n / 10) (by omega) (by omega)
      rw [Lib.decDigits, dif_neg h]
      have hadd : ∀ xo yo, binS Tryz.prog .add 9 xo yo (.string (bs (Lib.decDigits (n / 10)))) (.string ⟨#[UInt8.ofNat (48 + n % 10)]⟩) = some (.string (bs (Lib.decDigits (n / 10) ++ [UInt8.ofNat (48 + n % 10)]))) := fun xo yo => bin_sadd _ _ _ (Lib.decDigits (n / 10)) [UInt8.ofNat (48 + n % 10)] (by simp; omega)
      clear ih hl hl1
      refine PCalls.flat rfl ?_; refine ACalls.enter (n := 20) (rs := [.tmp 2]) Tryz.func51 rfl rfl rfl (by kernel_rfl) (by kernel_rfl) (by kernel_rfl) (Nat.le_of_ble_eq_true rfl) ?_
      repeat' (first | (refine KV.run _ ?_) | (refine KQ.run _ ?_) | (refine KT.run _ ?_) | (refine AWp.seqH fun KC => ?_) | (refine AWp.block ?_) | (refine AWp.region ?_) | (refine mops_step0 rfl rfl fun KC => ?_) | (refine mops_step1 rfl fun KC => ?_) | (refine mops_step2 rfl fun KC => ?_) | (refine AWp.ret ?_) | (refine AWp.skip ?_) | (refine AWp.exit ?_) | (refine aops_callH rfl fun kC => ?_) | (refine qops_callH rfl fun kC => ?_) | (refine AWp.condB ?_) | (simp only [bse, wk, tys, storeH_ptr, Nat.reduceEqDiff, ↓reduceIte, reduceCtorEq, Nat.reduceAdd, Nat.reduceLeDiff, Int.reduceBEq, Int.reduceLT, Int.reduceLE, Int.reduceEq, ne_eq, not_false_eq_true, Nat.reduceMul, ruleE_val, ruleE_sz, *]) | (refine condK_bool (fun hb => ?_) (fun hb => ?_) <;> ((try simp only [Bool.not_eq_true', Bool.not_eq_false'] at hb) <;> (try (have hbe := of_decide_eq_true hb)) <;> (try (have hbe := eq_of_beq hb)))) | (refine aops_partB ?_) | (refine qops_partB ?_))
      refine AWp.mixedT (id := 3) (.cons 0 0 (.cons 1 0 (.cons 3 0 (.cons 4 0 (.cons 5 0 (.cons 6 0 (.alt 2 1 (.cons 7 1 (.cons 8 0 (.cons 9 0 (.cons 10 0 .nil)))) (.cons 7 1 (.cons 8 0 (.cons 2 1 (.cons 9 0 (.cons 10 0 .nil)))))))))))) (by kernel_rfl) (by kernel_rfl) ?_
      refine mopsT_abs fun e0 he0 => ?_
      have r0 := congrFun he0 0
      try simp only [bse, wk, tys, storeH_ptr, Nat.reduceEqDiff, ↓reduceIte, reduceCtorEq, Nat.reduceAdd, Nat.reduceLeDiff, Int.reduceBEq, Int.reduceLT, Int.reduceLE, Int.reduceEq, ne_eq, not_false_eq_true, Nat.reduceMul, ruleE_val, ruleE_sz] at r0
      have he1 : Hid _ := he0
      clear he0
      refine mopsT_mono (K := fun e' H' => Agree [2, 10, 11, 12, 13, 14, 15, 16, 17, 18, 19] e0 e' ∧ (e' 2 = .string (bs (Lib.decDigits (n / 10) ++ [UInt8.ofNat (48 + n % 10)])))) ?cont _ _ _ ?leaf
      case leaf =>
        repeat' (first | (refine mopsT_step0 rfl rfl fun KC => ?_) | (refine mopsT_step1 rfl fun KC => ?_) | (refine mopsT_step2 rfl fun KC => ?_) | (refine mopsT_alt1 rfl (fun KC => ?_) ?_) | (refine mopsT_alt2 rfl (fun KC => ?_) ?_) | (refine ACalls.start ?_; first | (refine ACalls.ofJi (h1) rfl ?_)) | (refine qcall_start ?_; first | (refine qcallFi (h1) rfl ?_ ?_; (focus ((first | exact rfl | (simp [pureV, flatV, ruleE_val, ruleE_sz]; done)))))) | (refine KV.run _ ?_) | (refine KQ.run _ ?_) | (refine KT.run _ ?_) | (refine AWp.seqH fun KC => ?_) | (refine AWp.block ?_) | (refine AWp.region ?_) | (refine mops_step0 rfl rfl fun KC => ?_) | (refine mops_step1 rfl fun KC => ?_) | (refine mops_step2 rfl fun KC => ?_) | (refine AWp.ret ?_) | (refine AWp.skip ?_) | (refine AWp.exit ?_) | (refine aops_callH rfl fun kC => ?_) | (refine qops_callH rfl fun kC => ?_) | (refine AWp.condB ?_) | (simp only [bse, wk, tys, storeH_ptr, Nat.reduceEqDiff, ↓reduceIte, reduceCtorEq, Nat.reduceAdd, Nat.reduceLeDiff, Int.reduceBEq, Int.reduceLT, Int.reduceLE, Int.reduceEq, ne_eq, not_false_eq_true, Nat.reduceMul, ruleE_val, ruleE_sz, *]) | (refine condK_bool (fun hb => ?_) (fun hb => ?_) <;> ((try simp only [Bool.not_eq_true', Bool.not_eq_false'] at hb) <;> (try (have hbe := of_decide_eq_true hb)) <;> (try (have hbe := eq_of_beq hb)))) | (refine aops_partB ?_) | (refine qops_partB ?_))
        all_goals first | exact ⟨(by repeat (first | exact Agree.refl _ _ | assumption | refine Agree.put ?_ rfl _)), rfl⟩ | exact (by repeat (first | exact Agree.refl _ _ | assumption | refine Agree.put ?_ rfl _))
      rintro e' H' ⟨hA, e2⟩
      clear hA he1
      repeat' (first | (refine AWp.mixedT (id := 3) (.cons 0 0 (.cons 1 0 (.cons 3 0 (.cons 4 0 (.cons 5 0 (.cons 6 0 (.alt 2 1 (.cons 7 1 (.cons 8 0 (.cons 9 0 (.cons 10 0 .nil)))) (.cons 7 1 (.cons 8 0 (.cons 2 1 (.cons 9 0 (.cons 10 0 .nil)))))))))))) (by kernel_rfl) (by kernel_rfl) ?_) | (refine mopsT_step0 rfl rfl fun KC => ?_) | (refine mopsT_step1 rfl fun KC => ?_) | (refine mopsT_step2 rfl fun KC => ?_) | (refine mopsT_alt1 rfl (fun KC => ?_) ?_) | (refine mopsT_alt2 rfl (fun KC => ?_) ?_) | (refine KV.run _ ?_) | (refine KQ.run _ ?_) | (refine KT.run _ ?_) | (refine AWp.seqH fun KC => ?_) | (refine AWp.block ?_) | (refine AWp.region ?_) | (refine mops_step0 rfl rfl fun KC => ?_) | (refine mops_step1 rfl fun KC => ?_) | (refine mops_step2 rfl fun KC => ?_) | (refine AWp.ret ?_) | (refine AWp.skip ?_) | (refine AWp.exit ?_) | (refine aops_callH rfl fun kC => ?_) | (refine qops_callH rfl fun kC => ?_) | (refine AWp.condB ?_) | (simp only [bse, wk, tys, storeH_ptr, Nat.reduceEqDiff, ↓reduceIte, reduceCtorEq, Nat.reduceAdd, Nat.reduceLeDiff, Int.reduceBEq, Int.reduceLT, Int.reduceLE, Int.reduceEq, ne_eq, not_false_eq_true, Nat.reduceMul, ruleE_val, ruleE_sz, *]) | (refine condK_bool (fun hb => ?_) (fun hb => ?_) <;> ((try simp only [Bool.not_eq_true', Bool.not_eq_false'] at hb) <;> (try (have hbe := of_decide_eq_true hb)) <;> (try (have hbe := eq_of_beq hb)))) | (refine aops_partB ?_) | (refine qops_partB ?_))
end Go.BM
/- The text of a rule: the reference. -/
set_option linter.unusedVariables false
set_option linter.unusedSimpArgs false
set_option maxRecDepth 100000
set_option maxHeartbeats 4000000
namespace Go.BM
open Go.Proofs Go.RowKit
attribute [local irreducible] ACalls AWp aops qops optK optP cK gateA condK mops qcallK PCalls loadV fldV idxV lenV slV storeH binS
theorem spec_digits (x : Int) (h0 : 0 ≤ x) (h1 : x ≤ 1000000000) : PCalls Tryz.prog 51 [.int .i64 x] (.string (bs (Lib.itoa x))) := by
  have := spec_l2Digits x.toNat (by omega)
  rw [itoa_nat h0]
  rwa [show ((x.toNat : Nat) : Int) = x by omega] at this
theorem joinTail_snoc (c : List UInt8) (w : List UInt8) : ∀ ws : List (List UInt8), Lib.joinTail c (ws ++ [w]) = Lib.joinTail c ws ++ c ++ w := by
  intro ws
  induction ws with
  | nil => simp [Lib.joinTail]
  | cons a l ih => unfold Lib.joinTail at ih ⊢; simp at ih ⊢
theorem joinI_snoc (c : UInt8) (xs : List Int) (k : Nat) (h1 : 1 ≤ k) (hk : k < xs.length) : joinI c (xs.take (k + 1)) = joinI c (xs.take k) ++ [c] ++ Lib.itoa xs[k] := by
  obtain ⟨j, rfl⟩ : ∃ j, k = j + 1 := ⟨k - 1, by omega⟩
  cases xs with
  | nil => simp at hk
  | cons a l =>
    have hj : j < l.length := by simpa using hk
    unfold joinI
    simp only [List.take_succ_cons, List.map_cons, List.getElem_cons_succ]
    rw [Lib.join_cons, Lib.join_cons, List.take_succ_eq_append_getElem hj, List.map_append, List.map_cons, List.map_nil, joinTail_snoc]
    simp only [List.append_assoc]
theorem spec_l2Text (r : TRule) (hr : ruleFault r.keys r.need r.after = 0) : PCalls Tryz.prog 31 [ip [islE intE r.keys, .int .i64 r.need, .int .i64 r.after]] (.string (bs (ruleT 32 r))) := by
  obtain ⟨h1, h2, h3, h4⟩ := rf_bounds hr
  obtain ⟨keys, need, after⟩ := r
  dsimp only at *
  clear hr
  have hT : ruleT 32 ⟨keys, need, after⟩ = (Lib.itoa need ++ [32, 111, 102, 32] ++ joinI 44 keys) ++ (if after = 0 then [] else [32, 97, 102, 116, 101, 114, 32] ++ Lib.itoa after) := by
    unfold ruleT
    by_cases h0 : after = 0
    · simp [h0]
    · simp [h0]
  rw [hT]
  clear hT
  obtain ⟨P, hP⟩ : ∃ P, P = Lib.itoa need ++ [32, 111, 102, 32] := ⟨_, rfl⟩
  have hd1 := spec_digits need (by omega) (by omega)
  have hd3 := spec_digits after (by omega) (by omega)
  have l1 := itoa_len (x := need) (by omega) (by omega)
  have l3 := itoa_len (x := after) (by omega) (by omega)
  have hPl : P.length ≤ 7 := by rw [hP]; simp; omega
  have a1 : ∀ xo yo, binS Tryz.prog .add 9 xo yo (.string (bs (Lib.itoa need))) (.string ⟨#[32, 111, 102, 32]⟩) = some (.string (bs P)) := fun xo yo => by
    rw [hP]; exact bin_sadd _ _ _ (Lib.itoa need) [32, 111, 102, 32] (by simp; omega)
  rw [← hP]
  clear hP
  obtain ⟨k0, tl, hi0, hj1, hk0⟩ : ∃ k0 tl, (∀ H : AH, idxV Tryz.prog H 28 (islE intE keys) (.int .i64 0) = some (ip (.int .i64 k0 :: tl))) ∧ Lib.itoa k0 = joinI 44 (keys.take 1) ∧ k0 ∈ keys := by
    cases keys with
    | nil => simp at h1
    | cons a l =>
      refine ⟨a, intE.flat l, fun H => idxV_isl (P := Tryz.prog) (H := H) (n := (a :: l).length) (k := 0) (kd := .i64) (cs := intE.flat (a :: l)) elZ28 (by simp), ?_, by simp⟩
      unfold joinI
      simp [Lib.join_one]
  have hd2 := spec_digits k0 (by have := h4 k0 hk0; omega) (by have := h4 k0 hk0; omega)
  have l2 := itoa_len (x := k0) (by have := h4 k0 hk0; omega) (by have := h4 k0 hk0; omega)
  have a2 : ∀ xo yo, binS Tryz.prog .add 9 xo yo (.string (bs P)) (.string (bs (Lib.itoa k0))) = some (.string (bs (P ++ Lib.itoa k0))) := fun xo yo => bin_sadd _ _ _ P (Lib.itoa k0) (by omega)
  rw [hj1] at hd2 a2
  have hjl : ∀ k, (joinI 44 (keys.take k)).length ≤ 12 := fun k => by
    have := joinI_len 44 (keys.take k) (fun x hx => by have := h4 x (List.mem_of_mem_take hx); omega)
    have h5 : (keys.take k).length ≤ 3 := by rw [List.length_take]; omega
    omega
  clear hj1 hk0 l2 l1
  refine PCalls.flat rfl ?_; refine ACalls.enter (n := 53) (rs := [.tmp 2]) Tryz.func31 rfl rfl rfl (by kernel_rfl) (by kernel_rfl) (by kernel_rfl) (Nat.le_of_ble_eq_true rfl) ?_
  repeat' (first | (refine AWp.quiet (id := 1) (by kernel_rfl) (by kernel_rfl) ?_) | (refine ACalls.start ?_; first | (refine ACalls.ofJi (hd1) rfl ?_) | (refine ACalls.ofJi (hd2) rfl ?_)) | (refine qcall_start ?_; first | (refine qcallFi (hd1) rfl ?_ ?_; (focus ((first | exact rfl | (simp [pureV, flatV, ruleE_val, ruleE_sz]; done))))) | (refine qcallFi (hd2) rfl ?_ ?_; (focus ((first | exact rfl | (simp [pureV, flatV, ruleE_val, ruleE_sz]; done)))))) | (refine KV.run _ ?_) | (refine KQ.run _ ?_) | (refine KT.run _ ?_) | (refine AWp.seqH fun KC => ?_) | (refine AWp.block ?_) | (refine AWp.region ?_) | (refine mops_step0 rfl rfl fun KC => ?_) | (refine mops_step1 rfl fun KC => ?_) | (refine mops_step2 rfl fun KC => ?_) | (refine AWp.ret ?_) | (refine AWp.skip ?_) | (refine AWp.exit ?_) | (refine aops_callH rfl fun kC => ?_) | (refine qops_callH rfl fun kC => ?_) | (refine AWp.condB ?_) | (simp only [bse, wk, tys, storeH_ptr, Nat.reduceEqDiff, ↓reduceIte, reduceCtorEq, Nat.reduceAdd, Nat.reduceLeDiff, Int.reduceBEq, Int.reduceLT, Int.reduceLE, Int.reduceEq, ne_eq, not_false_eq_true, Nat.reduceMul, ruleE_val, ruleE_sz, *]) | (refine condK_bool (fun hb => ?_) (fun hb => ?_) <;> ((try simp only [Bool.not_eq_true', Bool.not_eq_false'] at hb) <;> (try (have hbe := of_decide_eq_true hb)) <;> (try (have hbe := eq_of_beq hb)))) | (refine aops_partB ?_) | (refine qops_partB ?_))
  clear hd1 hd2 a1 a2 hi0
  refine AWp.loopH [19, 20, 21, 22, 23, 24, 25, 28, 29, 30, 31, 32, 33, 34, 35, 36, 37, 38, 3, 26, 27, 4] (fun m e' H' => ∃ k : Nat, 1 ≤ k ∧ k ≤ keys.length ∧ m = keys.length - k ∧ e' 4 = .int .i64 k ∧ e' 3 = .string (bs (P ++ joinI 44 (keys.take k))) ∧ H' = []) (keys.length - 1) ⟨1, by omega, by omega, by omega, rfl, rfl, rfl⟩ ?_
  rintro m e' H' hA ⟨k, hk1, hk, rfl, e4, e3, rfl⟩ hJ
  have a0 := hA 0 rfl; have a2 := hA 2 rfl; try simp only [bse, wk, tys, storeH_ptr, Nat.reduceEqDiff, ↓reduceIte, reduceCtorEq, Nat.reduceAdd, Nat.reduceLeDiff, Int.reduceBEq, Int.reduceLT, Int.reduceLE, Int.reduceEq, ne_eq, not_false_eq_true, Nat.reduceMul] at a0 a2; clear hA
  by_cases hlt : k < keys.length
  · have hlt' : (k : Int) < (keys.length : Int) := by omega
    have hw := wr_succ (k := k) (by omega)
    have hd := spec_digits keys[k] (by have := h4 _ (List.getElem_mem hlt); omega) (by have := h4 _ (List.getElem_mem hlt); omega)
    have lk := itoa_len (x := keys[k]) (by have := h4 _ (List.getElem_mem hlt); omega) (by have := h4 _ (List.getElem_mem hlt); omega)
    have lj := hjl k
    obtain ⟨X, hX⟩ : ∃ X, X = P ++ joinI 44 (keys.take k) := ⟨_, rfl⟩
    obtain ⟨Y, hY⟩ : ∃ Y, Y = X ++ [44] := ⟨_, rfl⟩
    have hXl : X.length ≤ 19 := by rw [hX]; simp; omega
    have hYl : Y.length ≤ 20 := by rw [hY]; simp; omega
    have b1 : ∀ xo yo, binS Tryz.prog .add 9 xo yo (.string (bs X)) (.string ⟨#[44]⟩) = some (.string (bs Y)) := fun xo yo => by
      rw [hY]; exact bin_sadd _ _ _ X [44] (by simp; omega)
    have b2 : ∀ xo yo, binS Tryz.prog .add 9 xo yo (.string (bs Y)) (.string (bs (Lib.itoa keys[k]))) = some (.string (bs (P ++ joinI 44 (keys.take (k + 1))))) := fun xo yo => by
      rw [joinI_snoc 44 keys k hk1 hlt, ← List.append_assoc, ← List.append_assoc, ← hX, ← hY]
      exact bin_sadd _ _ _ Y (Lib.itoa keys[k]) (by omega)
    rw [← hX] at e3
    clear hX hY hXl hYl
    clear lk lj hjl h4
    repeat' (first | (refine AWp.quiet (id := 1) (by kernel_rfl) (by kernel_rfl) ?_) | (refine ACalls.start ?_; first | (refine ACalls.ofJi (hd) rfl ?_)) | (refine qcall_start ?_; first | (refine qcallFi (hd) rfl ?_ ?_; (focus ((first | exact rfl | (simp [pureV, flatV, ruleE_val, ruleE_sz]; done)))))) | (refine KV.run _ ?_) | (refine KQ.run _ ?_) | (refine KT.run _ ?_) | (refine AWp.seqH fun KC => ?_) | (refine AWp.block ?_) | (refine AWp.region ?_) | (refine mops_step0 rfl rfl fun KC => ?_) | (refine mops_step1 rfl fun KC => ?_) | (refine mops_step2 rfl fun KC => ?_) | (refine AWp.ret ?_) | (refine AWp.skip ?_) | (refine AWp.exit ?_) | (refine aops_callH rfl fun kC => ?_) | (refine qops_callH rfl fun kC => ?_) | (refine AWp.condB ?_) | (simp only [bse, wk, tys, storeH_ptr, Nat.reduceEqDiff, ↓reduceIte, reduceCtorEq, Nat.reduceAdd, Nat.reduceLeDiff, Int.reduceBEq, Int.reduceLT, Int.reduceLE, Int.reduceEq, ne_eq, not_false_eq_true, Nat.reduceMul, ruleE_val, ruleE_sz, *]) | (refine condK_bool (fun hb => ?_) (fun hb => ?_) <;> ((try simp only [Bool.not_eq_true', Bool.not_eq_false'] at hb) <;> (try (have hbe := of_decide_eq_true hb)) <;> (try (have hbe := eq_of_beq hb)))) | (refine aops_partB ?_) | (refine qops_partB ?_))
    exact hJ.out _ _ ⟨keys.length - (k + 1), by omega, k + 1, by omega, by omega, rfl, rfl, by simp [put], rfl⟩ (by repeat (first | exact Agree.refl _ _ | assumption | refine Agree.put ?_ rfl _))
  · have hlt' : ¬ (k : Int) < (keys.length : Int) := by omega
    have hke : k = keys.length := by omega
    have lj := hjl k
    subst hke
    rw [List.take_length] at e3 lj
    clear hjl
    obtain ⟨X, hX⟩ : ∃ X, X = P ++ joinI 44 keys := ⟨_, rfl⟩
    have hXl : X.length ≤ 19 := by rw [hX]; simp; omega
    rw [← hX] at e3
    have hXH : Hid (X = P ++ joinI 44 keys) := hX
    clear hX lj
    by_cases h0 : after = 0
    · have h0' : (after == 0) = true := by simpa using h0
      have hH : Hid (after = 0) := h0
      clear h0
      repeat' (first | (refine AWp.quiet (id := 1) (by kernel_rfl) (by kernel_rfl) ?_) | (refine ACalls.start ?_; first | (refine ACalls.ofJi (hd3) rfl ?_)) | (refine qcall_start ?_; first | (refine qcallFi (hd3) rfl ?_ ?_; (focus ((first | exact rfl | (simp [pureV, flatV, ruleE_val, ruleE_sz]; done)))))) | (refine KV.run _ ?_) | (refine KQ.run _ ?_) | (refine KT.run _ ?_) | (refine AWp.seqH fun KC => ?_) | (refine AWp.block ?_) | (refine AWp.region ?_) | (refine mops_step0 rfl rfl fun KC => ?_) | (refine mops_step1 rfl fun KC => ?_) | (refine mops_step2 rfl fun KC => ?_) | (refine AWp.ret ?_) | (refine AWp.skip ?_) | (refine AWp.exit ?_) | (refine aops_callH rfl fun kC => ?_) | (refine qops_callH rfl fun kC => ?_) | (refine AWp.condB ?_) | (simp only [bse, wk, tys, storeH_ptr, Nat.reduceEqDiff, ↓reduceIte, reduceCtorEq, Nat.reduceAdd, Nat.reduceLeDiff, Int.reduceBEq, Int.reduceLT, Int.reduceLE, Int.reduceEq, ne_eq, not_false_eq_true, Nat.reduceMul, ruleE_val, ruleE_sz, *]) | (refine condK_bool (fun hb => ?_) (fun hb => ?_) <;> ((try simp only [Bool.not_eq_true', Bool.not_eq_false'] at hb) <;> (try (have hbe := of_decide_eq_true hb)) <;> (try (have hbe := eq_of_beq hb)))) | (refine aops_partB ?_) | (refine qops_partB ?_))
      all_goals (rw [if_pos hH.out, List.append_nil, hXH.out])
    · have h0' : (after == 0) = false := by simpa using h0
      have hH : Hid (¬ after = 0) := h0
      clear h0
      obtain ⟨Y, hY⟩ : ∃ Y, Y = X ++ [32, 97, 102, 116, 101, 114, 32] := ⟨_, rfl⟩
      obtain ⟨Z, hZ⟩ : ∃ Z, Z = Y ++ Lib.itoa after := ⟨_, rfl⟩
      have hYl : Y.length ≤ 26 := by rw [hY]; simp; omega
      have c1 : ∀ xo yo, binS Tryz.prog .add 9 xo yo (.string (bs X)) (.string ⟨#[32, 97, 102, 116, 101, 114, 32]⟩) = some (.string (bs Y)) := fun xo yo => by
        rw [hY]; exact bin_sadd _ _ _ X [32, 97, 102, 116, 101, 114, 32] (by simp; omega)
      have c2 : ∀ xo yo, binS Tryz.prog .add 9 xo yo (.string (bs Y)) (.string (bs (Lib.itoa after))) = some (.string (bs Z)) := fun xo yo => by
        rw [hZ]; exact bin_sadd _ _ _ Y (Lib.itoa after) (by omega)
      have hYH : Hid (Z = X ++ ([32, 97, 102, 116, 101, 114, 32] ++ Lib.itoa after)) := by unfold Hid; rw [hZ, hY]; simp
      clear hY hZ hYl hXl
      repeat' (first | (refine AWp.quiet (id := 1) (by kernel_rfl) (by kernel_rfl) ?_) | (refine ACalls.start ?_; first | (refine ACalls.ofJi (hd3) rfl ?_)) | (refine qcall_start ?_; first | (refine qcallFi (hd3) rfl ?_ ?_; (focus ((first | exact rfl | (simp [pureV, flatV, ruleE_val, ruleE_sz]; done)))))) | (refine KV.run _ ?_) | (refine KQ.run _ ?_) | (refine KT.run _ ?_) | (refine AWp.seqH fun KC => ?_) | (refine AWp.block ?_) | (refine AWp.region ?_) | (refine mops_step0 rfl rfl fun KC => ?_) | (refine mops_step1 rfl fun KC => ?_) | (refine mops_step2 rfl fun KC => ?_) | (refine AWp.ret ?_) | (refine AWp.skip ?_) | (refine AWp.exit ?_) | (refine aops_callH rfl fun kC => ?_) | (refine qops_callH rfl fun kC => ?_) | (refine AWp.condB ?_) | (simp only [bse, wk, tys, storeH_ptr, Nat.reduceEqDiff, ↓reduceIte, reduceCtorEq, Nat.reduceAdd, Nat.reduceLeDiff, Int.reduceBEq, Int.reduceLT, Int.reduceLE, Int.reduceEq, ne_eq, not_false_eq_true, Nat.reduceMul, ruleE_val, ruleE_sz, *]) | (refine condK_bool (fun hb => ?_) (fun hb => ?_) <;> ((try simp only [Bool.not_eq_true', Bool.not_eq_false'] at hb) <;> (try (have hbe := of_decide_eq_true hb)) <;> (try (have hbe := eq_of_beq hb)))) | (refine aops_partB ?_) | (refine qops_partB ?_))
      all_goals (rw [if_neg hH.out, hYH.out, hXH.out]; simp)
end Go.BM
/- A rule, read out of a text: the program. -/
set_option linter.unusedVariables false
set_option linter.unusedSimpArgs false
set_option maxRecDepth 100000
set_option maxHeartbeats 4000000
namespace Go.BM
open Go.Proofs Go.RowKit
attribute [local irreducible] ACalls AWp aops qops optK optP cK gateA condK mops qcallK PCalls loadV fldV idxV lenV slV storeH binS
/-- A block of numbers, told. -/
def dInts (zs : List Int) (bs : List Blk) (F : (Nat → Nat) → Value) : Prop := ∃ ver : Nat, bs = [⟨2, 1, intE.flat zs, ver, true⟩] ∧ F = fun ρ => .slice (some ⟨ρ 0, 0, none⟩) zs.length ver
theorem dInts_sh {zs : List Int} : ∀ bs F, dInts zs bs F → Shp bs F := by
  rintro _ _ ⟨ver, rfl, rfl⟩
  exact Shp.one (intE_flat _) fun N ρ k => .slice 0 0 none _ _ (by decide)
theorem impl_numbersF (t : List UInt8) (c : UInt8) (ht : t.length ≤ 1000000) : NFun Tryz.prog 54 [.string (bs t), .string (bs [c])] (dInts ((cutL c t).map numL)) := by
  have hsp := lib_SplitC t c (by omega)
  have hln := cutL_len c t
  have hwl := cutL_mem c t
  have hws : ∀ (k : Nat) (hk : k < (cutW c t).length), ∃ w, w ∈ cutL c t ∧ (cutW c t)[k] = bs w := fun k hk => by
    obtain ⟨w, hw, e⟩ := List.mem_map.1 (List.getElem_mem hk : (cutW c t)[k] ∈ cutW c t)
    exact ⟨w, hw, e.symm⟩
  have hcl : (cutW c t).length = (cutL c t).length := List.length_map ..
  have hmp : (cutL c t).map numL = (cutW c t).map numF := by unfold cutW; rw [List.map_map]; rfl
  rw [hmp]
  have hnum : ∀ (k : Nat) (hk : k < (cutW c t).length), PCalls Tryz.prog 53 [.string (cutW c t)[k]] (.int .i64 (numF (cutW c t)[k])) := fun k hk => by
    obtain ⟨w, hw, e⟩ := hws k hk
    rw [e]
    exact lib_number _ (by rw [bs_size]; have := hwl w hw; omega)
  have hwn : (cutW c t).length ≤ 1000001 := by omega
  generalize cutW c t = ws at hsp hnum hwn ⊢
  clear hws hcl hmp hwl hln
  unfold NFun
  refine ACalls.enter (n := 24) (rs := [.tmp 4]) Tryz.func54 rfl rfl rfl (by kernel_rfl) (by kernel_rfl) (by kernel_rfl) (Nat.le_of_ble_eq_true rfl) ?_
  repeat' (first | (refine ACalls.start ?_; first | (refine ACalls.ofJi (hsp) rfl ?_)) | (refine qcall_start ?_; first | (refine qcallFi (hsp) rfl ?_ ?_; (focus ((first | exact rfl | (simp [pureV, flatV, ruleE_val, ruleE_sz]; done)))))) | (refine KV.run _ ?_) | (refine KQ.run _ ?_) | (refine KT.run _ ?_) | (refine AWp.seqH fun KC => ?_) | (refine AWp.block ?_) | (refine AWp.region ?_) | (refine mops_step0 rfl rfl fun KC => ?_) | (refine mops_step1 rfl fun KC => ?_) | (refine mops_step2 rfl fun KC => ?_) | (refine AWp.ret ?_) | (refine AWp.skip ?_) | (refine AWp.exit ?_) | (refine aops_callH rfl fun kC => ?_) | (refine qops_callH rfl fun kC => ?_) | (refine AWp.condB ?_) | (simp only [bse, wk, tys, storeH_ptr, Nat.reduceEqDiff, ↓reduceIte, reduceCtorEq, Nat.reduceAdd, Nat.reduceLeDiff, Int.reduceBEq, Int.reduceLT, Int.reduceLE, Int.reduceEq, ne_eq, not_false_eq_true, Nat.reduceMul, ruleE_val, ruleE_sz, *]) | (refine condK_bool (fun hb => ?_) (fun hb => ?_) <;> ((try simp only [Bool.not_eq_true', Bool.not_eq_false'] at hb) <;> (try (have hbe := of_decide_eq_true hb)) <;> (try (have hbe := eq_of_beq hb)))) | (refine aops_partB ?_) | (refine qops_partB ?_))
  refine AWp.loopH [14, 15, 16, 7, 17, 18, 19, 20, 21, 5, 22, 13] (fun m e' H' => ∃ (k ver : Nat) (G : AH), k ≤ ws.length ∧ m = ws.length - k ∧ e' 13 = .int .i64 k ∧ e' 5 = .slice (some ⟨0, 0, none⟩) k ver ∧ H' = ⟨2, 1, intE.flat ((ws.take k).map numF), ver, true⟩ :: G) ws.length ⟨0, 0, _, by omega, by omega, rfl, rfl, rfl⟩ ?_
  rintro m e' H' hA ⟨k, ver, G, hk, rfl, e13, e5, rfl⟩ hJ
  have a4 := hA 4 rfl; have a11 := hA 11 rfl; have a12 := hA 12 rfl; try simp only [bse, wk, tys, storeH_ptr, Nat.reduceEqDiff, ↓reduceIte, reduceCtorEq, Nat.reduceAdd, Nat.reduceLeDiff, Int.reduceBEq, Int.reduceLT, Int.reduceLE, Int.reduceEq, ne_eq, not_false_eq_true, Nat.reduceMul] at a4 a11 a12; clear hA
  by_cases hlt : k < ws.length
  · have hlt' : (k : Int) < (ws.length : Int) := by omega
    have hw := wr_succ (k := k) (by omega)
    have hn := hnum k hlt
    have hkl : ((ws.take k).map numF).length = k := by rw [List.length_map, List.length_take]; omega
    have hap := appendH_one (P := Tryz.prog) (B := 0) (E := intE) (H0 := ⟨2, 1, intE.flat ((ws.take k).map numF), ver, true⟩ :: G) (ys := (ws.take k).map numF) (numF ws[k]) elZ28 elZ28 zOk28 (r := 0) rfl (Nat.zero_le _) (by omega) (by omega)
    rw [hkl, ← map_step numF ws k hlt] at hap
    simp only [List.cons_append, List.length_cons, List.set_cons_succ, List.set_cons_zero, intE_sz, intE_val, cells_int] at hap
    clear hkl hnum
    repeat' (first | (refine ACalls.start ?_; first | (refine ACalls.ofJi (hn) rfl ?_)) | (refine qcall_start ?_; first | (refine qcallFi (hn) rfl ?_ ?_; (focus ((first | exact rfl | (simp [pureV, flatV, ruleE_val, ruleE_sz]; done)))))) | (refine KV.run _ ?_) | (refine KQ.run _ ?_) | (refine KT.run _ ?_) | (refine AWp.seqH fun KC => ?_) | (refine AWp.block ?_) | (refine AWp.region ?_) | (refine mops_step0 rfl rfl fun KC => ?_) | (refine mops_step1 rfl fun KC => ?_) | (refine mops_step2 rfl fun KC => ?_) | (refine AWp.ret ?_) | (refine AWp.skip ?_) | (refine AWp.exit ?_) | (refine aops_callH rfl fun kC => ?_) | (refine qops_callH rfl fun kC => ?_) | (refine AWp.condB ?_) | (simp only [bse, wk, tys, storeH_ptr, Nat.reduceEqDiff, ↓reduceIte, reduceCtorEq, Nat.reduceAdd, Nat.reduceLeDiff, Int.reduceBEq, Int.reduceLT, Int.reduceLE, Int.reduceEq, ne_eq, not_false_eq_true, Nat.reduceMul, ruleE_val, ruleE_sz, *]) | (refine condK_bool (fun hb => ?_) (fun hb => ?_) <;> ((try simp only [Bool.not_eq_true', Bool.not_eq_false'] at hb) <;> (try (have hbe := of_decide_eq_true hb)) <;> (try (have hbe := eq_of_beq hb)))) | (refine aops_partB ?_) | (refine qops_partB ?_))
    exact hJ.out _ _ ⟨ws.length - (k + 1), by omega, k + 1, ver + 1, _, by omega, rfl, rfl, by simp [put], rfl⟩ (by repeat (first | exact Agree.refl _ _ | assumption | refine Agree.put ?_ rfl _))
  · have hlt' : ¬ (k : Int) < (ws.length : Int) := by omega
    have hke : k = ws.length := by omega
    subst hke
    rw [List.take_length]
    clear hnum
    repeat' (first | (refine KV.run _ ?_) | (refine KQ.run _ ?_) | (refine KT.run _ ?_) | (refine AWp.seqH fun KC => ?_) | (refine AWp.block ?_) | (refine AWp.region ?_) | (refine mops_step0 rfl rfl fun KC => ?_) | (refine mops_step1 rfl fun KC => ?_) | (refine mops_step2 rfl fun KC => ?_) | (refine AWp.ret ?_) | (refine AWp.skip ?_) | (refine AWp.exit ?_) | (refine aops_callH rfl fun kC => ?_) | (refine qops_callH rfl fun kC => ?_) | (refine AWp.condB ?_) | (simp only [bse, wk, tys, storeH_ptr, Nat.reduceEqDiff, ↓reduceIte, reduceCtorEq, Nat.reduceAdd, Nat.reduceLeDiff, Int.reduceBEq, Int.reduceLT, Int.reduceLE, Int.reduceEq, ne_eq, not_false_eq_true, Nat.reduceMul, ruleE_val, ruleE_sz, *]) | (refine condK_bool (fun hb => ?_) (fun hb => ?_) <;> ((try simp only [Bool.not_eq_true', Bool.not_eq_false'] at hb) <;> (try (have hbe := of_decide_eq_true hb)) <;> (try (have hbe := eq_of_beq hb)))) | (refine aops_partB ?_) | (refine qops_partB ?_))
    exact NFOut.one 0 rfl ⟨ver, rfl, rfl⟩ (by simp)
theorem impl_numbers_own (H : AH) (t : List UInt8) (c : UInt8) (ht : t.length ≤ 1000000) :
    ACalls Tryz.prog H.length 54 [.string (bs t), .string (bs [c])] H fun d H' => ∃ ver : Nat, d = .slice (some ⟨H.length, 0, none⟩) ((cutL c t).map numL).length ver ∧ H' = H ++ [⟨2, 1, intE.flat ((cutL c t).map numL), ver, true⟩] :=
  ACalls.get ((impl_numbersF t c ht).use dInts_sh (.cons (.same _ (.flat _ rfl)) (.cons (.same _ (.flat _ rfl)) .nil))) (Nat.le_refl _) (Nat.le_refl _) (by
    rintro _ _ ⟨_, _, ⟨ver, rfl, rfl⟩, rfl, rfl⟩
    exact ⟨ver, rfl, rfl⟩)
end Go.BM
