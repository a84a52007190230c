/- Votes and voters: what is wrong with them. -/
import Derived.Test.YtboephigjgncaaaGreatDoorT1
import Derived.Test.YtboephigjgncaaaGreatDoorD1
set_option linter.unusedVariables false
set_option linter.unusedSimpArgs false
set_option maxRecDepth 100000
set_option maxHeartbeats 4000000
namespace Go.BM
open Go.Proofs Go.RowKit
attribute [local irreducible] ACalls AWp aops qops optK optP cK gateA condK mops qcallK PCalls loadV fldV idxV lenV slV storeH binS
theorem inB_12 (k : Int) : inB k 1 2 = (k == 1 || k == 2) := by
  unfold inB
  by_cases h1 : k = 1
  · subst h1; rfl
  · by_cases h2 : k = 2
    · subst h2; rfl
    · have a1 : (k == 1) = false := by simpa using h1
      have a2 : (k == 2) = false := by simpa using h2
      rw [a1, a2]
      simp
      omega
theorem spec_l1In (a b c : Int) : PCalls Tryz.prog 65 [.int .i64 a, .int .i64 b, .int .i64 c] (.bool (inB a b c)) := by
  unfold inB
  by_cases h1 : b ≤ a
  all_goals
    refine PCalls.flat rfl ?_; refine ACalls.enter (n := 15) (rs := [.tmp 6]) Tryz.func65 rfl rfl rfl (by kernel_rfl) (by kernel_rfl) (by kernel_rfl) (Nat.le_of_ble_eq_true rfl) ?_
    repeat' (first | (refine KV.run _ ?_) | (refine KQ.run _ ?_) | (refine KT.run _ ?_) | (refine AWp.seqH fun KC => ?_) | (refine AWp.block ?_) | (refine AWp.region ?_) | (refine mops_step0 rfl rfl fun KC => ?_) | (refine mops_step1 rfl fun KC => ?_) | (refine mops_step2 rfl fun KC => ?_) | (refine AWp.ret ?_) | (refine AWp.skip ?_) | (refine AWp.exit ?_) | (refine aops_callH rfl fun kC => ?_) | (refine qops_callH rfl fun kC => ?_) | (refine AWp.condB ?_) | (simp only [bse, wk, tys, storeH_ptr, Nat.reduceEqDiff, ↓reduceIte, reduceCtorEq, Nat.reduceAdd, Nat.reduceLeDiff, Int.reduceBEq, Int.reduceLT, Int.reduceLE, Int.reduceEq, ne_eq, not_false_eq_true, Nat.reduceMul, *]) | (refine condK_bool (fun hb => ?_) (fun hb => ?_) <;> ((try simp only [Bool.not_eq_true', Bool.not_eq_false'] at hb) <;> (try (have hbe := of_decide_eq_true hb)) <;> (try (have hbe := eq_of_beq hb)))) | (refine aops_partB ?_) | (refine qops_partB ?_))
  all_goals (try simp)
theorem spec_l1Key (a : Int) : PCalls Tryz.prog 64 [.int .i64 a] (.bool (inB a 1 999)) := by
  refine PCalls.flat rfl ?_; refine ACalls.enter (n := 5) (rs := [.tmp 2]) Tryz.func64 rfl rfl rfl (by kernel_rfl) (by kernel_rfl) (by kernel_rfl) (Nat.le_of_ble_eq_true rfl) ?_
  repeat' (first | (refine ACalls.start ?_; first | (refine ACalls.ofJi (spec_l1In _ _ _) rfl ?_)) | (refine qcall_start ?_; first | (refine qcallFi (spec_l1In _ _ _) rfl ?_ ?_; (focus ((first | exact rfl | (simp [pureV, flatV]; done)))))) | (refine KV.run _ ?_) | (refine KQ.run _ ?_) | (refine KT.run _ ?_) | (refine AWp.seqH fun KC => ?_) | (refine AWp.block ?_) | (refine AWp.region ?_) | (refine mops_step0 rfl rfl fun KC => ?_) | (refine mops_step1 rfl fun KC => ?_) | (refine mops_step2 rfl fun KC => ?_) | (refine AWp.ret ?_) | (refine AWp.skip ?_) | (refine AWp.exit ?_) | (refine aops_callH rfl fun kC => ?_) | (refine qops_callH rfl fun kC => ?_) | (refine AWp.condB ?_) | (simp only [bse, wk, tys, storeH_ptr, Nat.reduceEqDiff, ↓reduceIte, reduceCtorEq, Nat.reduceAdd, Nat.reduceLeDiff, Int.reduceBEq, Int.reduceLT, Int.reduceLE, Int.reduceEq, ne_eq, not_false_eq_true, Nat.reduceMul, *]) | (refine condK_bool (fun hb => ?_) (fun hb => ?_) <;> ((try simp only [Bool.not_eq_true', Bool.not_eq_false'] at hb) <;> (try (have hbe := of_decide_eq_true hb)) <;> (try (have hbe := eq_of_beq hb)))) | (refine aops_partB ?_) | (refine qops_partB ?_))
def refB (r : TRef) : Bool := inB r.tx 1 60 && inB r.at' 0 3
theorem spec_l3Ref (r : TRef) : PCalls Tryz.prog 98 [refE.val r] (.bool (refB r)) := by
  refine PCalls.flat rfl ?_; refine ACalls.enter (n := 11) (rs := [.tmp 2]) Tryz.func98 rfl rfl rfl (by kernel_rfl) (by kernel_rfl) (by kernel_rfl) (Nat.le_of_ble_eq_true rfl) ?_
  repeat' (first | (refine ACalls.start ?_; first | (refine ACalls.ofJi (spec_l1In _ _ _) rfl ?_)) | (refine qcall_start ?_; first | (refine qcallFi (spec_l1In _ _ _) rfl ?_ ?_; (focus ((first | exact rfl | (simp [pureV, flatV, refE_val, refE_sz, choiceE_val, choiceE_sz]; done)))))) | (refine KV.run _ ?_) | (refine KQ.run _ ?_) | (refine KT.run _ ?_) | (refine AWp.seqH fun KC => ?_) | (refine AWp.block ?_) | (refine AWp.region ?_) | (refine mops_step0 rfl rfl fun KC => ?_) | (refine mops_step1 rfl fun KC => ?_) | (refine mops_step2 rfl fun KC => ?_) | (refine AWp.ret ?_) | (refine AWp.skip ?_) | (refine AWp.exit ?_) | (refine aops_callH rfl fun kC => ?_) | (refine qops_callH rfl fun kC => ?_) | (refine AWp.condB ?_) | (simp only [bse, wk, tys, storeH_ptr, Nat.reduceEqDiff, ↓reduceIte, reduceCtorEq, Nat.reduceAdd, Nat.reduceLeDiff, Int.reduceBEq, Int.reduceLT, Int.reduceLE, Int.reduceEq, ne_eq, not_false_eq_true, Nat.reduceMul, refE_val, refE_sz, choiceE_val, choiceE_sz, *]) | (refine condK_bool (fun hb => ?_) (fun hb => ?_) <;> ((try simp only [Bool.not_eq_true', Bool.not_eq_false'] at hb) <;> (try (have hbe := of_decide_eq_true hb)) <;> (try (have hbe := eq_of_beq hb)))) | (refine aops_partB ?_) | (refine qops_partB ?_))
  all_goals simp [refB, *]
theorem impl_isRef (r : TRef) : PCalls Tryz.prog 106 [refE.val r] (.bool (refB r)) := by
  refine PCalls.flat rfl ?_; refine ACalls.enter (n := 11) (rs := [.tmp 2]) Tryz.func106 rfl rfl rfl (by kernel_rfl) (by kernel_rfl) (by kernel_rfl) (Nat.le_of_ble_eq_true rfl) ?_
  repeat' (first | (refine ACalls.start ?_; first | (refine ACalls.ofJi (impl_isId _) rfl ?_) | (refine ACalls.ofJi (impl_within _ _ _) rfl ?_)) | (refine qcall_start ?_; first | (refine qcallFi (impl_isId _) rfl ?_ ?_; (focus ((first | exact rfl | (simp [pureV, flatV, refE_val, refE_sz, choiceE_val, choiceE_sz]; done))))) | (refine qcallFi (impl_within _ _ _) rfl ?_ ?_; (focus ((first | exact rfl | (simp [pureV, flatV, refE_val, refE_sz, choiceE_val, choiceE_sz]; done)))))) | (refine KV.run _ ?_) | (refine KQ.run _ ?_) | (refine KT.run _ ?_) | (refine AWp.seqH fun KC => ?_) | (refine AWp.block ?_) | (refine AWp.region ?_) | (refine mops_step0 rfl rfl fun KC => ?_) | (refine mops_step1 rfl fun KC => ?_) | (refine mops_step2 rfl fun KC => ?_) | (refine AWp.ret ?_) | (refine AWp.skip ?_) | (refine AWp.exit ?_) | (refine aops_callH rfl fun kC => ?_) | (refine qops_callH rfl fun kC => ?_) | (refine AWp.condB ?_) | (simp only [bse, wk, tys, storeH_ptr, Nat.reduceEqDiff, ↓reduceIte, reduceCtorEq, Nat.reduceAdd, Nat.reduceLeDiff, Int.reduceBEq, Int.reduceLT, Int.reduceLE, Int.reduceEq, ne_eq, not_false_eq_true, Nat.reduceMul, refE_val, refE_sz, choiceE_val, choiceE_sz, *]) | (refine condK_bool (fun hb => ?_) (fun hb => ?_) <;> ((try simp only [Bool.not_eq_true', Bool.not_eq_false'] at hb) <;> (try (have hbe := of_decide_eq_true hb)) <;> (try (have hbe := eq_of_beq hb)))) | (refine aops_partB ?_) | (refine qops_partB ?_))
  all_goals simp [refB, *]
def sameRef (a b : TRef) : Bool := a.tx == b.tx && a.at' == b.at'
theorem sameRef_self (a : TRef) : sameRef a a = true := by simp [sameRef]
def chGo : List TChoice → List TChoice → Int
  | _, [] => 0
  | pre, x :: l => if !refB x.ref || !inB x.tx 1 60 then 3 else if pre.any (fun y => sameRef y.ref x.ref) then 7 else chGo (pre ++ [x]) l
def voterFault (v : TVoter) : Int := if !inB v.key 1 999 || !inB v.last 0 60 then 3 else if decide ((40 : Int) < (v.choices.length : Int)) then 2 else chGo [] v.choices
theorem chGo_step (xs : List TChoice) (k : Nat) (hk : k < xs.length) : chGo (xs.take k) (xs.drop k) = if !refB xs[k].ref || !inB xs[k].tx 1 60 then 3 else if (xs.take k).any (fun y => sameRef y.ref xs[k].ref) then 7 else chGo (xs.take (k + 1)) (xs.drop (k + 1)) := by
  rw [List.drop_eq_getElem_cons hk, ← take_next xs k hk]
  rfl
end Go.BM
