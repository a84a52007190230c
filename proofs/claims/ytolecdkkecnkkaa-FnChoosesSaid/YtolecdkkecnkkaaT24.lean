/- CastFor: both sides. -/
import Derived.Test.YtolecdkkecnkkaaT3
import Derived.Test.YtolecdkkecnkkaaT6
import Derived.Test.YtolecdkkecnkkaaG4
import Derived.Test.YtolecdkkecnkkaaU2
set_option linter.unusedVariables false
set_option linter.unusedSimpArgs false
set_option maxRecDepth 100000
set_option maxHeartbeats 4000000
namespace Go.BM
open Go.Proofs Go.RowKit
attribute [local irreducible] ACalls AWp aops qops optK optP cK gateA condK mops qcallK PCalls loadV fldV idxV lenV slV storeH binS
def castF (xs : List TNode) (v : TVoter) (id : Int) : TVoterResult :=
  if decide (ndAt xs id < 0) then ⟨4, ⟨0, 0, 0, ⟨0, 0⟩, 0⟩, ⟨0, 0, []⟩⟩ else if (!(v.last == 0) && !above xs v.last id) || v.last == id then ⟨10, ⟨0, 0, 0, ⟨0, 0⟩, 0⟩, ⟨0, 0, []⟩⟩ else ⟨0, ⟨v.key, 1, id, ⟨0, 0⟩, 0⟩, ⟨v.key, id, v.choices⟩⟩
def castForF (xs : List TNode) (v : TVoter) (id : Int) : TVoterResult :=
  if treeFault xs == 0 then (if voterFault v == 0 then castF xs v id else ⟨voterFault v, ⟨0, 0, 0, ⟨0, 0⟩, 0⟩, ⟨0, 0, []⟩⟩) else ⟨treeFault xs, ⟨0, 0, 0, ⟨0, 0⟩, 0⟩, ⟨0, 0, []⟩⟩
theorem nR_CastFor (xs : List TNode) (v : TVoter) (id : Int) (hn : xs.length ≤ 1048576) (hv : nVoter v ≤ 1048576) : nVoterResult (castForF xs v id) ≤ 1048576 := by
  unfold castForF castF
  repeat' split
  all_goals simp [nVoterResult, nVoter] at *
  all_goals omega
theorem impl_ownVoter_own (b0 b1 : Blk) (v : TVoter) (h1 : v.choices.length ≤ 1048576) : ACalls Try.prog 2 30 [voterE.val v] [b0, b1] fun d H' => ∃ v1 o1 c0 c1, (v.choices.length ≠ 0 → o1 = true) ∧ d = .agg #[.int .i64 v.key, .int .i64 v.last, .slice (some ⟨4, 0, none⟩) v.choices.length v1] ∧ H' = [b0, b1, c0, c1, sb 73 choiceE v.choices v1 o1] := by
  refine ACalls.enter (n := 8) (rs := [.cell 2 26]) Try.func30 rfl rfl rfl (by kernel_rfl) (by kernel_rfl) (by kernel_rfl) (Nat.le_of_ble_eq_true rfl) ?_
  repeat' (first | (refine ACalls.start ?_; first | (refine ACalls.get (lib_Clone_Choice_own _ v.choices (by omega)) (by first | exact Nat.le_refl _ | exact Nat.zero_le _ | (simp only [List.length_append, List.length_cons, List.length_nil]; omega) | (simp only [List.length_set]; omega) | omega) (by first | exact Nat.le_refl _ | exact Nat.zero_le _ | (simp only [List.length_append, List.length_cons, List.length_nil]; omega) | (simp only [List.length_set]; omega) | omega) ?_; rintro _ _ ⟨v1, o1, ho1, rfl, rfl⟩)) | (refine KV.run _ ?_) | (refine KQ.run _ ?_) | (refine KT.run _ ?_) | (refine AWp.seqH fun KC => ?_) | (refine AWp.block ?_) | (refine AWp.region ?_) | (refine mops_step0 rfl rfl fun KC => ?_) | (refine mops_step1 rfl fun KC => ?_) | (refine mops_step2 rfl fun KC => ?_) | (refine AWp.ret ?_) | (refine AWp.skip ?_) | (refine AWp.exit ?_) | (refine aops_callH rfl fun kC => ?_) | (refine qops_callH rfl fun kC => ?_) | (refine AWp.condB ?_) | (simp only [bse, wk, tys, storeH_ptr, Nat.reduceEqDiff, ↓reduceIte, reduceCtorEq, Nat.reduceAdd, Nat.reduceLeDiff, Int.reduceBEq, Int.reduceLT, Int.reduceLE, Int.reduceEq, ne_eq, not_false_eq_true, Nat.reduceMul, nodeE_val, nodeE_sz, voterE_val, voterE_sz, choiceE_val, choiceE_sz, voterResultE_val, sb_eq, *]) | (refine condK_bool (fun hb => ?_) (fun hb => ?_) <;> ((try simp only [Bool.not_eq_true', Bool.not_eq_false'] at hb) <;> (try (have hbe := of_decide_eq_true hb)) <;> (try (have hbe := eq_of_beq hb)))) | (refine aops_partB ?_) | (refine qops_partB ?_))
  exact ⟨_, _, _, _, ho1, rfl, rfl⟩
theorem spec_l11Copy_own (b0 b1 : Blk) (v : TVoter) (h1 : v.choices.length ≤ 1048576) : ACalls Try.prog 2 63 [voterE.val v] [b0, b1] fun d H' => ∃ c0 c1, d = .agg #[.int .i64 v.key, .int .i64 v.last, .slice (some ⟨4, 0, none⟩) v.choices.length 1] ∧ H' = [b0, b1, c0, c1, sb 73 choiceE v.choices 1 true] := by
  have apA := fun (c0 c1 : Blk) => appendH_sb (P := Try.prog) (B := 2) (H := [b0, b1, c0, c1, sb 73 choiceE [] 0 true]) (E := choiceE) (xs := []) (ys := v.choices) (r := 4) (x := islE choiceE v.choices) (t := 24) (tx := 24) (o := true) (ver := 0) elZ24 zOk24 rfl (by decide) (srcV_isl' elZ24) (by simp; omega) (by simp; omega)
  simp only [sb_eq, choiceE_sz, choiceE.flat_nil, List.nil_append, List.length_cons, List.length_nil, Nat.zero_add, List.set_cons_succ, List.set_cons_zero, Bool.true_or, Nat.reduceAdd] at apA
  refine ACalls.enter (n := 9) (rs := [.cell 2 26]) Try.func63 rfl rfl rfl (by kernel_rfl) (by kernel_rfl) (by kernel_rfl) (Nat.le_of_ble_eq_true rfl) ?_
  repeat' (first | (refine KV.run _ ?_) | (refine KQ.run _ ?_) | (refine KT.run _ ?_) | (refine AWp.seqH fun KC => ?_) | (refine AWp.block ?_) | (refine AWp.region ?_) | (refine mops_step0 rfl rfl fun KC => ?_) | (refine mops_step1 rfl fun KC => ?_) | (refine mops_step2 rfl fun KC => ?_) | (refine AWp.ret ?_) | (refine AWp.skip ?_) | (refine AWp.exit ?_) | (refine aops_callH rfl fun kC => ?_) | (refine qops_callH rfl fun kC => ?_) | (refine AWp.condB ?_) | (simp only [bse, wk, tys, storeH_ptr, Nat.reduceEqDiff, ↓reduceIte, reduceCtorEq, Nat.reduceAdd, Nat.reduceLeDiff, Int.reduceBEq, Int.reduceLT, Int.reduceLE, Int.reduceEq, ne_eq, not_false_eq_true, Nat.reduceMul, nodeE_val, nodeE_sz, voterE_val, voterE_sz, choiceE_val, choiceE_sz, voterResultE_val, sb_eq, *]) | (refine condK_bool (fun hb => ?_) (fun hb => ?_) <;> ((try simp only [Bool.not_eq_true', Bool.not_eq_false'] at hb) <;> (try (have hbe := of_decide_eq_true hb)) <;> (try (have hbe := eq_of_beq hb)))) | (refine aops_partB ?_) | (refine qops_partB ?_))
  all_goals (first | exact ⟨_, _, rfl⟩ | exact ⟨_, _, rfl, rfl⟩)
end Go.BM
