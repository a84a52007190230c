/- Votes: their fault, how many there are for a thing. -/
import Derived.Test.YtfggnccpbdfpeaaT2
import Derived.Test.YtfggnccpbdfpeaaT8
import Derived.Test.YtfggnccpbdfpeaaG5
import Derived.Test.YtfggnccpbdfpeaaU2
set_option linter.unusedVariables false
set_option linter.unusedSimpArgs false
set_option maxRecDepth 100000
set_option maxHeartbeats 4000000
namespace Go.BM
open Go.Proofs Go.RowKit
attribute [local irreducible] ACalls AWp aops qops optK optP cK gateA condK mops qcallK PCalls loadV fldV idxV lenV slV storeH binS
def voteFault (x : TVote) : Int :=
  if x.kind == 1 then (if !(x.ref.tx == 0 && x.ref.at' == 0) || !(x.tx == 0) then 1 else if !inB x.key 1 999 || !inB x.block 1 60 then 3 else 0)
  else if x.kind == 2 then (if !(x.block == 0) then 1 else if !inB x.key 1 999 || !(refB x.ref && inB x.tx 1 60) then 3 else 0)
  else 1
theorem impl_VoteFault (x : TVote) : PCalls Try.prog 34 [voteE.val x] (.int .i64 (voteFault x)) := by
  refine PCalls.flat rfl ?_; refine ACalls.enter (n := 41) (rs := [.tmp 2]) Try.func34 rfl rfl rfl (by kernel_rfl) (by kernel_rfl) (by kernel_rfl) (Nat.le_of_ble_eq_true rfl) ?_
  repeat' (first | (refine ACalls.start ?_; first | (refine ACalls.ofJi (impl_isId _) rfl ?_) | (refine ACalls.ofJi (impl_isKey _) rfl ?_) | (refine ACalls.ofJi (impl_isRef x.ref) rfl ?_)) | (refine qcall_start ?_; first | (refine qcallFi (impl_isId _) rfl ?_ ?_; (focus ((first | exact rfl | (simp [pureV, flatV, voteE_val, voteE_sz, refE_val, refE_sz, quorumE_val, quorumE_sz, intResultE_val]; done))))) | (refine qcallFi (impl_isKey _) rfl ?_ ?_; (focus ((first | exact rfl | (simp [pureV, flatV, voteE_val, voteE_sz, refE_val, refE_sz, quorumE_val, quorumE_sz, intResultE_val]; done))))) | (refine qcallFi (impl_isRef x.ref) rfl ?_ ?_; (focus ((first | exact rfl | (simp [pureV, flatV, voteE_val, voteE_sz, refE_val, refE_sz, quorumE_val, quorumE_sz, intResultE_val]; done)))))) | (refine KV.run _ ?_) | (refine KQ.run _ ?_) | (refine KT.run _ ?_) | (refine AWp.seqH fun KC => ?_) | (refine AWp.block ?_) | (refine AWp.region ?_) | (refine mops_step0 rfl rfl fun KC => ?_) | (refine mops_step1 rfl fun KC => ?_) | (refine mops_step2 rfl fun KC => ?_) | (refine AWp.ret ?_) | (refine AWp.skip ?_) | (refine AWp.exit ?_) | (refine aops_callH rfl fun kC => ?_) | (refine qops_callH rfl fun kC => ?_) | (refine AWp.condB ?_) | (simp only [bse, wk, tys, storeH_ptr, Nat.reduceEqDiff, ↓reduceIte, reduceCtorEq, Nat.reduceAdd, Nat.reduceLeDiff, Int.reduceBEq, Int.reduceLT, Int.reduceLE, Int.reduceEq, ne_eq, not_false_eq_true, Nat.reduceMul, voteE_val, voteE_sz, refE_val, refE_sz, quorumE_val, quorumE_sz, intResultE_val, *]) | (refine condK_bool (fun hb => ?_) (fun hb => ?_) <;> ((try simp only [Bool.not_eq_true', Bool.not_eq_false'] at hb) <;> (try (have hbe := of_decide_eq_true hb)) <;> (try (have hbe := eq_of_beq hb)))) | (refine aops_partB ?_) | (refine qops_partB ?_))
  all_goals (first | rfl | (simp only [voteFault, bse, wk, tys, storeH_ptr, Nat.reduceEqDiff, ↓reduceIte, reduceCtorEq, Nat.reduceAdd, Nat.reduceLeDiff, Int.reduceBEq, Int.reduceLT, Int.reduceLE, Int.reduceEq, ne_eq, not_false_eq_true, Nat.reduceMul, voteE_val, voteE_sz, refE_val, refE_sz, quorumE_val, quorumE_sz, intResultE_val, if_true, if_false, ite_true, ite_false, Bool.false_eq_true, *]; done) | (simp [voteFault, *]; done) | (simp_all [voteFault]; done) | (simp_all [voteFault]; (repeat' split) <;> first | rfl | omega))
theorem spec_l11Tx2 (a : Int) : PCalls Try.prog 181 [.int .i64 a] (.bool (inB a 1 60)) := by
  refine PCalls.flat rfl ?_; refine ACalls.enter (n := 5) (rs := [.tmp 2]) Try.func181 rfl rfl rfl (by kernel_rfl) (by kernel_rfl) (by kernel_rfl) (Nat.le_of_ble_eq_true rfl) ?_
  repeat' (first | (refine ACalls.start ?_; first | (refine ACalls.ofJi (spec_l1In _ _ _) rfl ?_)) | (refine qcall_start ?_; first | (refine qcallFi (spec_l1In _ _ _) rfl ?_ ?_; (focus ((first | exact rfl | (simp [pureV, flatV, voteE_val, voteE_sz, refE_val, refE_sz, quorumE_val, quorumE_sz, intResultE_val]; done)))))) | (refine KV.run _ ?_) | (refine KQ.run _ ?_) | (refine KT.run _ ?_) | (refine AWp.seqH fun KC => ?_) | (refine AWp.block ?_) | (refine AWp.region ?_) | (refine mops_step0 rfl rfl fun KC => ?_) | (refine mops_step1 rfl fun KC => ?_) | (refine mops_step2 rfl fun KC => ?_) | (refine AWp.ret ?_) | (refine AWp.skip ?_) | (refine AWp.exit ?_) | (refine aops_callH rfl fun kC => ?_) | (refine qops_callH rfl fun kC => ?_) | (refine AWp.condB ?_) | (simp only [bse, wk, tys, storeH_ptr, Nat.reduceEqDiff, ↓reduceIte, reduceCtorEq, Nat.reduceAdd, Nat.reduceLeDiff, Int.reduceBEq, Int.reduceLT, Int.reduceLE, Int.reduceEq, ne_eq, not_false_eq_true, Nat.reduceMul, voteE_val, voteE_sz, refE_val, refE_sz, quorumE_val, quorumE_sz, intResultE_val, *]) | (refine condK_bool (fun hb => ?_) (fun hb => ?_) <;> ((try simp only [Bool.not_eq_true', Bool.not_eq_false'] at hb) <;> (try (have hbe := of_decide_eq_true hb)) <;> (try (have hbe := eq_of_beq hb)))) | (refine aops_partB ?_) | (refine qops_partB ?_))
def sameVote (a b : TVote) : Bool := a.key == b.key && (a.kind == b.kind && (a.block == b.block && ((a.ref.tx == b.ref.tx && a.ref.at' == b.ref.at') && a.tx == b.tx)))
def withKey (x : TVote) (k : Int) : TVote := ⟨k, x.kind, x.block, x.ref, x.tx⟩
def votedB (vs : List TVote) (x : TVote) (k : Int) : Bool := vs.any fun y => sameVote (withKey x k) y
def countL (vs : List TVote) (ks : List Int) (x : TVote) : Nat := (ks.filter fun k => votedB vs x k).length
theorem countL_step (vs : List TVote) (ks : List Int) (x : TVote) (k : Nat) (hk : k < ks.length) : countL vs (ks.take (k + 1)) x = if votedB vs x ks[k] then countL vs (ks.take k) x + 1 else countL vs (ks.take k) x := by
  unfold countL
  rw [filter_step _ ks k hk]
  split <;> simp
theorem countL_le (vs : List TVote) (ks : List Int) (x : TVote) : countL vs ks x ≤ ks.length := List.length_filter_le _ _
theorem sameVote_comm (a b : TVote) : sameVote a b = sameVote b a := by
  unfold sameVote
  rw [Bool.beq_comm (a := a.key), Bool.beq_comm (a := a.kind), Bool.beq_comm (a := a.block), Bool.beq_comm (a := a.ref.tx), Bool.beq_comm (a := a.ref.at'), Bool.beq_comm (a := a.tx)]
def countF (vs : List TVote) (q : TQuorum) (x : TVote) : TIntResult :=
  if !(quorumFault q.keys q.need == 0) then ⟨quorumFault q.keys q.need, 0⟩ else if !(voteFault x == 0) then ⟨voteFault x, 0⟩ else if decide ((100 : Int) < (vs.length : Int)) then ⟨2, 0⟩ else ⟨0, (countL vs q.keys x : Nat)⟩
def lockedF (vs : List TVote) (q : TQuorum) (x : TVote) : Bool := (countF vs q x).code == 0 && decide (q.need ≤ (countF vs q x).value)
end Go.BM
