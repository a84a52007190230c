/- RuleMet: both sides. -/
import Derived.Test.YtolecdkkecnkkaaT8
import Derived.Test.YtolecdkkecnkkaaT15
import Derived.Test.YtolecdkkecnkkaaC25
set_option linter.unusedVariables false
set_option linter.unusedSimpArgs false
set_option maxRecDepth 100000
set_option maxHeartbeats 4000000
namespace Go.BM
open Go.Proofs Go.RowKit
attribute [local irreducible] ACalls AWp aops qops optK optP cK gateA condK mops qcallK PCalls loadV fldV idxV lenV slV storeH binS
def ruleFault (xs : List Int) (need after : Int) : Int := if !inB xs.length 1 3 then 2 else if !keysB xs || !inB need 1 xs.length || !inB after 0 999 then 3 else if !risB xs then 1 else 0
def sgIn (gs : List TSign) (key id : Int) : Bool := gs.any fun y => key == y.key && id == y.id
theorem impl_hasSign (l : TLedger) (key id : Int) (h2 : l.signs.length ≤ 1048576) : PCalls Try.prog 52 [ledgerE.val l, .int .i64 key, .int .i64 id] (.bool (sgIn l.signs key id)) := by
  have hc := lib_Contains_Sign l.signs ⟨key, id⟩ (by omega)
  unfold sgIn
  refine PCalls.flat rfl ?_; refine ACalls.enter (n := 13) (rs := [.tmp 6]) Try.func52 rfl rfl rfl (by kernel_rfl) (by kernel_rfl) (by kernel_rfl) (Nat.le_of_ble_eq_true rfl) ?_
  repeat' (first | (refine ACalls.start ?_; first | (refine ACalls.ofJi (hc) rfl ?_)) | (refine qcall_start ?_; first | (refine qcallFi (hc) rfl ?_ ?_; (focus ((first | exact rfl | (simp [pureV, flatV, ruleE_val, ruleE_sz, signE_val, signE_sz, ledgerE_val, ledgerE_sz]; done)))))) | (refine KV.run _ ?_) | (refine KQ.run _ ?_) | (refine KT.run _ ?_) | (refine AWp.seqH fun KC => ?_) | (refine AWp.block ?_) | (refine AWp.region ?_) | (refine mops_step0 rfl rfl fun KC => ?_) | (refine mops_step1 rfl fun KC => ?_) | (refine mops_step2 rfl fun KC => ?_) | (refine AWp.ret ?_) | (refine AWp.skip ?_) | (refine AWp.exit ?_) | (refine aops_callH rfl fun kC => ?_) | (refine qops_callH rfl fun kC => ?_) | (refine AWp.condB ?_) | (simp only [bse, wk, tys, storeH_ptr, Nat.reduceEqDiff, ↓reduceIte, reduceCtorEq, Nat.reduceAdd, Nat.reduceLeDiff, Int.reduceBEq, Int.reduceLT, Int.reduceLE, Int.reduceEq, ne_eq, not_false_eq_true, Nat.reduceMul, ruleE_val, ruleE_sz, signE_val, signE_sz, ledgerE_val, ledgerE_sz, *]) | (refine condK_bool (fun hb => ?_) (fun hb => ?_) <;> ((try simp only [Bool.not_eq_true', Bool.not_eq_false'] at hb) <;> (try (have hbe := of_decide_eq_true hb)) <;> (try (have hbe := eq_of_beq hb)))) | (refine aops_partB ?_) | (refine qops_partB ?_))
def sgCount (gs : List TSign) (id : Int) (ks : List Int) : Nat := (ks.filter fun k => sgIn gs k id).length
theorem sgCount_step (gs : List TSign) (id : Int) (ks : List Int) (k : Nat) (hk : k < ks.length) : sgCount gs id (ks.take (k + 1)) = if sgIn gs ks[k] id then sgCount gs id (ks.take k) + 1 else sgCount gs id (ks.take k) := by
  unfold sgCount
  rw [filter_step _ ks k hk]
  split <;> simp
theorem sgCount_le (gs : List TSign) (id : Int) (ks : List Int) : sgCount gs id ks ≤ ks.length := List.length_filter_le _ _
def metF (gs : List TSign) (r : TRule) (id height : Int) : Int := if decide (height < r.after) then 9 else if decide (((sgCount gs id r.keys : Nat) : Int) < r.need) then 6 else 0
def ruleMetF (l : TLedger) (r : TRule) (id height : Int) : Int :=
  if ledgerFault l == 0 then (if ruleFault r.keys r.need r.after == 0 then (if !inB id 1 l.texts.length || !inB height 0 999 then 3 else metF l.signs r id height) else ruleFault r.keys r.need r.after) else ledgerFault l
end Go.BM
