/- Package slices. -/
import Derived.Test.YtolecdkkecnkkaaT1
import Derived.Test.YtolecdkkecnkkaaC25
set_option linter.unusedVariables false
set_option linter.unusedSimpArgs false
set_option maxRecDepth 100000
set_option maxHeartbeats 4000000
namespace Go.BM
open Go.Proofs Go.RowKit
attribute [local irreducible] ACalls AWp aops qops optK optP cK gateA condK mops qcallK PCalls loadV fldV idxV lenV slV storeH binS

theorem lib_Clone_Choice_own (H : AH) (xs : List TChoice) (hn : xs.length ≤ 1048576) :
    ACalls Try.prog H.length 58 [islE choiceE xs] H fun d H' => ∃ ver o, (xs.length ≠ 0 → o = true) ∧ d = .slice (some ⟨H.length, 0, none⟩) xs.length ver ∧ H' = H ++ [sb 73 choiceE xs ver o] := by
  have hap := appendH_sb (P := Try.prog) (B := H.length) (H := H ++ [sb 73 choiceE [] 0 true]) (E := choiceE) (xs := []) (ys := xs) (r := H.length) (x := islE choiceE xs) (tx := 24) elZ24 zOk24 (by rw [get_app0]; rfl) (Nat.le_refl _) (srcV_isl' elZ24) (by simp; omega) (by simp; omega)
  simp only [sb_eq, List.nil_append, List.length_nil, Nat.zero_add, Bool.true_or, choiceE.flat_nil, choiceE_sz] at hap
  refine ACalls.ghost (post := fun d H' => (d = .slice none 0 0 ∧ xs = [] ∧ H' = H) ∨ (d = .slice (some ⟨H.length, 0, none⟩) xs.length 1 ∧ H' = H ++ [sb 73 choiceE xs 1 true])) ?_ ?_
  · refine ACalls.enter (n := 8) (rs := [.tmp 2]) Try.func58 rfl rfl rfl (by kernel_rfl) (by kernel_rfl) (by kernel_rfl) (Nat.le_of_ble_eq_true rfl) ?_
    repeat' (first | (refine KV.run _ ?_) | (refine KQ.run _ ?_) | (refine KT.run _ ?_) | (refine AWp.seqH fun KC => ?_) | (refine AWp.block ?_) | (refine AWp.region ?_) | (refine mops_step0 rfl rfl fun KC => ?_) | (refine mops_step1 rfl fun KC => ?_) | (refine mops_step2 rfl fun KC => ?_) | (refine AWp.ret ?_) | (refine AWp.skip ?_) | (refine AWp.exit ?_) | (refine aops_callH rfl fun kC => ?_) | (refine qops_callH rfl fun kC => ?_) | (refine AWp.condB ?_) | (simp only [bse, wk, tys, storeH_ptr, Nat.reduceEqDiff, ↓reduceIte, reduceCtorEq, Nat.reduceAdd, Nat.reduceLeDiff, Int.reduceBEq, Int.reduceLT, Int.reduceLE, Int.reduceEq, ne_eq, not_false_eq_true, Nat.reduceMul, refE_val, refE_sz, nodeE_val, nodeE_sz, choiceE_val, choiceE_sz, *]) | (refine condK_bool (fun hb => ?_) (fun hb => ?_) <;> ((try simp only [Bool.not_eq_true', Bool.not_eq_false'] at hb) <;> (try (have hbe := of_decide_eq_true hb)) <;> (try (have hbe := eq_of_beq hb)))) | (refine aops_partB ?_) | (refine qops_partB ?_))
    refine nilQ_intro elZ24 slen_islE fun b hb => ?_
    cases b with
    | true =>
      have hx : xs = [] := List.eq_nil_of_length_eq_zero (hb rfl)
      clear hb
      repeat' (first | (refine KV.run _ ?_) | (refine KQ.run _ ?_) | (refine KT.run _ ?_) | (refine AWp.seqH fun KC => ?_) | (refine AWp.block ?_) | (refine AWp.region ?_) | (refine mops_step0 rfl rfl fun KC => ?_) | (refine mops_step1 rfl fun KC => ?_) | (refine mops_step2 rfl fun KC => ?_) | (refine AWp.ret ?_) | (refine AWp.skip ?_) | (refine AWp.exit ?_) | (refine aops_callH rfl fun kC => ?_) | (refine qops_callH rfl fun kC => ?_) | (refine AWp.condB ?_) | (simp only [bse, wk, tys, storeH_ptr, Nat.reduceEqDiff, ↓reduceIte, reduceCtorEq, Nat.reduceAdd, Nat.reduceLeDiff, Int.reduceBEq, Int.reduceLT, Int.reduceLE, Int.reduceEq, ne_eq, not_false_eq_true, Nat.reduceMul, refE_val, refE_sz, nodeE_val, nodeE_sz, choiceE_val, choiceE_sz, *]) | (refine condK_bool (fun hb => ?_) (fun hb => ?_) <;> ((try simp only [Bool.not_eq_true', Bool.not_eq_false'] at hb) <;> (try (have hbe := of_decide_eq_true hb)) <;> (try (have hbe := eq_of_beq hb)))) | (refine aops_partB ?_) | (refine qops_partB ?_))
      exact .inl trivial
    | false =>
      clear hb
      repeat' (first | (refine KV.run _ ?_) | (refine KQ.run _ ?_) | (refine KT.run _ ?_) | (refine AWp.seqH fun KC => ?_) | (refine AWp.block ?_) | (refine AWp.region ?_) | (refine mops_step0 rfl rfl fun KC => ?_) | (refine mops_step1 rfl fun KC => ?_) | (refine mops_step2 rfl fun KC => ?_) | (refine AWp.ret ?_) | (refine AWp.skip ?_) | (refine AWp.exit ?_) | (refine aops_callH rfl fun kC => ?_) | (refine qops_callH rfl fun kC => ?_) | (refine AWp.condB ?_) | (simp only [bse, wk, tys, Nat.reduceEqDiff, ↓reduceIte, reduceCtorEq, Nat.reduceAdd, Nat.reduceLeDiff, Int.reduceBEq, Int.reduceLT, Int.reduceLE, Int.reduceEq, ne_eq, not_false_eq_true, Nat.reduceMul, refE_val, refE_sz, nodeE_val, nodeE_sz, choiceE_val, choiceE_sz, *]) | (refine condK_bool (fun hb => ?_) (fun hb => ?_) <;> ((try simp only [Bool.not_eq_true', Bool.not_eq_false'] at hb) <;> (try (have hbe := of_decide_eq_true hb)) <;> (try (have hbe := eq_of_beq hb)))) | (refine aops_partB ?_) | (refine qops_partB ?_))
      first | exact .inr ⟨rfl, rfl⟩ | exact .inr rfl
  · rintro d H' (⟨rfl, rfl, rfl⟩ | ⟨rfl, rfl⟩)
    · exact .inr ⟨rfl, 73, choiceE.sz, 0, false, fun h => by simp at h, rfl, rfl⟩
    · exact .inl ⟨1, true, fun _ => rfl, rfl, rfl⟩
theorem lib_Clone_Choice (xs : List TChoice) (hn : xs.length ≤ 1048576) : PCalls Try.prog 58 [islE choiceE xs] (islE choiceE xs) :=
  PCalls.of ((lib_Clone_Choice_own [] xs hn).mono fun d H' ⟨ver, o, h1, h2, h3⟩ => by
    subst h2 h3
    exact Bor.sb rfl h1 rfl)

end Go.BM
