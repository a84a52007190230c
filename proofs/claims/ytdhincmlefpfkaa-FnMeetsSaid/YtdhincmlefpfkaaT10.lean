/- FnExactMeetOf: both sides. -/
import Derived.Test.YtdhincmlefpfkaaT8B
import Derived.Test.YtdhincmlefpfkaaC25
import Derived.Test.YtdhincmlefpfkaaU2
set_option linter.unusedVariables false
set_option linter.unusedSimpArgs false
set_option maxRecDepth 100000
set_option maxHeartbeats 4000000
namespace Go.BM
open Go.Proofs Go.RowKit
attribute [local irreducible] ACalls AWp aops qops optK optP cK gateA condK mops qcallK PCalls loadV fldV idxV lenV slV storeH binS
def longB (a b : List Int) : Bool := decide ((20 : Int) < (a.length : Int)) || decide ((20 : Int) < (b.length : Int))
def meetF (a b : List Int) : TIntsResult := if longB a b then ⟨2, []⟩ else ⟨0, meetL a b⟩
theorem nR_MeetOf (a b : List Int) (ha : a.length ≤ 1048576) (hb : b.length ≤ 1048576) : nIntsResult (meetF a b) ≤ 1048576 := by
  unfold nIntsResult meetF
  have := meetL_len a b
  split
  · simp
  · show (meetL a b).length ≤ _
    omega
theorem impl_meetOf_own (xs bs : List Int) (hn : xs.length ≤ 1048576) (hb : bs.length ≤ 1048576) : NCalls Try.prog 99 [islE intE xs, islE intE bs] (islE intE (meetL xs bs)) := by
  have hd := fun (ver : Nat) (o : Bool) (ho : xs.length ≠ 0 → o = true) => lib_DeleteFunc_int 0 [⟨24, 0, [islE intE bs], 0, true⟩, ⟨2, 1, intE.flat xs, ver, o⟩] 1 ver xs o rfl ho (Nat.zero_le _) hn 177 #[.pointer (some ⟨0, 0, some 0⟩)] #[ip [islE intE bs]] (fun x => !(bs.any fun y => x == y))
    (fun b => .cons (Bor.ptrL rfl rfl rfl ⟨_, .cons (.same _ (islE_im _ _)) .nil, rfl⟩ (by simp)) .nil) (by repeat' (first | exact Im.nilL | refine Im.consL ?_ ?_ | refine Im.appL ?_ ?_ | exact Im.flat _ rfl | exact islE_im _ _ | exact Enc.val_im _ _ | assumption | refine Im.aggL ?_ | refine Im.funcL ?_ | refine Im.funcA ?_ | refine Im.isl ?_ | refine Im.ip ?_)) (fun x _ => impl_meetOf1 bs x hb)
  refine NCalls.of ?_; refine ACalls.enter (n := 9) (rs := [.tmp 4]) Try.func99 rfl rfl rfl (by kernel_rfl) (by kernel_rfl) (by kernel_rfl) (Nat.le_of_ble_eq_true rfl) ?_
  repeat' (first | (refine ACalls.start ?_; first | (refine ACalls.get (lib_Clone_int_own _ xs hn) (by first | exact Nat.le_refl _ | exact Nat.zero_le _ | (simp only [List.length_append, List.length_cons, List.length_nil]; omega) | (simp only [List.length_set]; omega) | omega) (by first | exact Nat.le_refl _ | exact Nat.zero_le _ | (simp only [List.length_append, List.length_cons, List.length_nil]; omega) | (simp only [List.length_set]; omega) | omega) ?_; rintro _ _ ⟨ver, o, ho, rfl, rfl⟩) | (refine ACalls.get (hd _ _ (by assumption)) (by first | exact Nat.le_refl _ | exact Nat.zero_le _ | (simp only [List.length_append, List.length_cons, List.length_nil]; omega) | (simp only [List.length_set]; omega) | omega) (by first | exact Nat.le_refl _ | exact Nat.zero_le _ | (simp only [List.length_append, List.length_cons, List.length_nil]; omega) | (simp only [List.length_set]; omega) | omega) ?_; rintro _ _ ⟨rest, sp, rfl, rfl⟩)) | (refine KV.run _ ?_) | (refine KQ.run _ ?_) | (refine KT.run _ ?_) | (refine AWp.seqH fun KC => ?_) | (refine AWp.block ?_) | (refine AWp.region ?_) | (refine mops_step0 rfl rfl fun KC => ?_) | (refine mops_step1 rfl fun KC => ?_) | (refine mops_step2 rfl fun KC => ?_) | (refine AWp.ret ?_) | (refine AWp.skip ?_) | (refine AWp.exit ?_) | (refine aops_callH rfl fun kC => ?_) | (refine qops_callH rfl fun kC => ?_) | (refine AWp.condB ?_) | (simp only [bse, wk, tys, storeH_ptr, Nat.reduceEqDiff, ↓reduceIte, reduceCtorEq, Nat.reduceAdd, Nat.reduceLeDiff, Int.reduceBEq, Int.reduceLT, Int.reduceLE, Int.reduceEq, ne_eq, not_false_eq_true, Nat.reduceMul, *]) | (refine condK_bool (fun hb => ?_) (fun hb => ?_) <;> ((try simp only [Bool.not_eq_true', Bool.not_eq_false'] at hb) <;> (try (have hbe := of_decide_eq_true hb)) <;> (try (have hbe := eq_of_beq hb)))) | (refine aops_partB ?_) | (refine qops_partB ?_))
  have hml := meetL_len xs bs
  have ho' := ‹xs.length ≠ 0 → _›
  have he : (xs.filter fun x => !!(bs.any fun y => x == y)) = meetL xs bs := by unfold meetL; simp
  try rw [he]
  exact ⟨[1], by simp, OwnL.sl rfl (fun h => ho' (by omega)) rfl (intE_flat _) (fun e => by cases e)⟩
theorem impl_MeetOf (xs bs : List Int) (hn : xs.length ≤ 1048576) (hb : bs.length ≤ 1048576) : NCalls Try.prog 24 [islE intE xs, islE intE bs] (intsResultE.val (meetF xs bs)) := by
  unfold meetF
  by_cases h1 : (20 : Int) < (xs.length : Int)
  · have hc : longB xs bs = true := by simp [longB, h1]
    rw [hc]
    clear hc
    refine NCalls.of ?_; refine ACalls.enter (n := 18) (rs := [.cell 4 33]) Try.func24 rfl rfl rfl (by kernel_rfl) (by kernel_rfl) (by kernel_rfl) (Nat.le_of_ble_eq_true rfl) ?_
    repeat' (first | (refine KV.run _ ?_) | (refine KQ.run _ ?_) | (refine KT.run _ ?_) | (refine AWp.seqH fun KC => ?_) | (refine AWp.block ?_) | (refine AWp.region ?_) | (refine mops_step0 rfl rfl fun KC => ?_) | (refine mops_step1 rfl fun KC => ?_) | (refine mops_step2 rfl fun KC => ?_) | (refine AWp.ret ?_) | (refine AWp.skip ?_) | (refine AWp.exit ?_) | (refine aops_callH rfl fun kC => ?_) | (refine qops_callH rfl fun kC => ?_) | (refine AWp.condB ?_) | (simp only [bse, wk, tys, storeH_ptr, Nat.reduceEqDiff, ↓reduceIte, reduceCtorEq, Nat.reduceAdd, Nat.reduceLeDiff, Int.reduceBEq, Int.reduceLT, Int.reduceLE, Int.reduceEq, ne_eq, not_false_eq_true, Nat.reduceMul, *]) | (refine condK_bool (fun hb => ?_) (fun hb => ?_) <;> ((try simp only [Bool.not_eq_true', Bool.not_eq_false'] at hb) <;> (try (have hbe := of_decide_eq_true hb)) <;> (try (have hbe := eq_of_beq hb)))) | (refine aops_partB ?_) | (refine qops_partB ?_))
    exact ⟨[], by simp, OwnL.aggL (.flat rfl (.nils .nil))⟩
  by_cases h2 : (20 : Int) < (bs.length : Int)
  · have hc : longB xs bs = true := by simp [longB, h2]
    rw [hc]
    clear hc
    refine NCalls.of ?_; refine ACalls.enter (n := 18) (rs := [.cell 4 33]) Try.func24 rfl rfl rfl (by kernel_rfl) (by kernel_rfl) (by kernel_rfl) (Nat.le_of_ble_eq_true rfl) ?_
    repeat' (first | (refine KV.run _ ?_) | (refine KQ.run _ ?_) | (refine KT.run _ ?_) | (refine AWp.seqH fun KC => ?_) | (refine AWp.block ?_) | (refine AWp.region ?_) | (refine mops_step0 rfl rfl fun KC => ?_) | (refine mops_step1 rfl fun KC => ?_) | (refine mops_step2 rfl fun KC => ?_) | (refine AWp.ret ?_) | (refine AWp.skip ?_) | (refine AWp.exit ?_) | (refine aops_callH rfl fun kC => ?_) | (refine qops_callH rfl fun kC => ?_) | (refine AWp.condB ?_) | (simp only [bse, wk, tys, storeH_ptr, Nat.reduceEqDiff, ↓reduceIte, reduceCtorEq, Nat.reduceAdd, Nat.reduceLeDiff, Int.reduceBEq, Int.reduceLT, Int.reduceLE, Int.reduceEq, ne_eq, not_false_eq_true, Nat.reduceMul, *]) | (refine condK_bool (fun hb => ?_) (fun hb => ?_) <;> ((try simp only [Bool.not_eq_true', Bool.not_eq_false'] at hb) <;> (try (have hbe := of_decide_eq_true hb)) <;> (try (have hbe := eq_of_beq hb)))) | (refine aops_partB ?_) | (refine qops_partB ?_))
    exact ⟨[], by simp, OwnL.aggL (.flat rfl (.nils .nil))⟩
  have hc : longB xs bs = false := by simp [longB]; omega
  rw [hc, if_neg Bool.false_ne_true]
  clear hc
  have hcx := CxP.nil 1
  refine NCalls.of ?_; refine ACalls.enter (n := 18) (rs := [.cell 4 33]) Try.func24 rfl rfl rfl (by kernel_rfl) (by kernel_rfl) (by kernel_rfl) (Nat.le_of_ble_eq_true rfl) ?_
  repeat' (first | (refine KV.run _ ?_) | (refine KQ.run _ ?_) | (refine KT.run _ ?_) | (refine AWp.seqH fun KC => ?_) | (refine AWp.block ?_) | (refine AWp.region ?_) | (refine mops_step0 rfl rfl fun KC => ?_) | (refine mops_step1 rfl fun KC => ?_) | (refine mops_step2 rfl fun KC => ?_) | (refine AWp.ret ?_) | (refine AWp.skip ?_) | (refine AWp.exit ?_) | (refine aops_callH rfl fun kC => ?_) | (refine qops_callH rfl fun kC => ?_) | (refine AWp.condB ?_) | (simp only [bse, wk, tys, storeH_ptr, Nat.reduceEqDiff, ↓reduceIte, reduceCtorEq, Nat.reduceAdd, Nat.reduceLeDiff, Int.reduceBEq, Int.reduceLT, Int.reduceLE, Int.reduceEq, ne_eq, not_false_eq_true, Nat.reduceMul, *]) | (refine condK_bool (fun hb => ?_) (fun hb => ?_) <;> ((try simp only [Bool.not_eq_true', Bool.not_eq_false'] at hb) <;> (try (have hbe := of_decide_eq_true hb)) <;> (try (have hbe := eq_of_beq hb)))) | (refine aops_partB ?_) | (refine qops_partB ?_))
  refine ACalls.get (NCalls.use (impl_meetOf_own xs bs hn hb) (BorL.same (by repeat' (first | exact Im.nilL | refine Im.consL ?_ ?_ | refine Im.appL ?_ ?_ | exact Im.flat _ rfl | exact islE_im _ _ | exact Enc.val_im _ _ | assumption | refine Im.aggL ?_ | refine Im.funcL ?_ | refine Im.funcA ?_ | refine Im.isl ?_ | refine Im.ip ?_)))) (by first | exact Nat.le_refl _ | exact Nat.zero_le _ | (simp only [List.length_append, List.length_cons, List.length_nil]; omega) | (simp only [List.length_set]; omega) | omega) (by first | exact Nat.le_refl _ | exact Nat.zero_le _ | (simp only [List.length_append, List.length_cons, List.length_nil]; omega) | (simp only [List.length_set]; omega) | omega) ?_
  rintro d _ ⟨S, hN⟩
  obtain ⟨a0, n0, v0, rfl⟩ := hN.own.slD
  obtain ⟨N0, rfl, hcx⟩ := CxP.new hcx [_] rfl hN
  simp only [List.nil_append, List.cons_append] at hcx
  clear hN
  repeat' (first | (refine KV.run _ ?_) | (refine KQ.run _ ?_) | (refine KT.run _ ?_) | (refine AWp.seqH fun KC => ?_) | (refine AWp.block ?_) | (refine AWp.region ?_) | (refine mops_step0 rfl rfl fun KC => ?_) | (refine mops_step1 rfl fun KC => ?_) | (refine mops_step2 rfl fun KC => ?_) | (refine AWp.ret ?_) | (refine AWp.skip ?_) | (refine AWp.exit ?_) | (refine aops_callH rfl fun kC => ?_) | (refine qops_callH rfl fun kC => ?_) | (refine AWp.condB ?_) | (simp only [bse, wk, tys, storeH_ptr, Nat.reduceEqDiff, ↓reduceIte, reduceCtorEq, Nat.reduceAdd, Nat.reduceLeDiff, Int.reduceBEq, Int.reduceLT, Int.reduceLE, Int.reduceEq, ne_eq, not_false_eq_true, Nat.reduceMul, *]) | (refine condK_bool (fun hb => ?_) (fun hb => ?_) <;> ((try simp only [Bool.not_eq_true', Bool.not_eq_false'] at hb) <;> (try (have hbe := of_decide_eq_true hb)) <;> (try (have hbe := eq_of_beq hb)))) | (refine aops_partB ?_) | (refine qops_partB ?_))
  exact CxP.out hcx [_] rfl fun _ hf => ⟨_, by simpa using hf.nd, OwnL.aggL (.flat rfl (OwnL.append (hf.get 0 rfl).loose .nil))⟩
end Go.BM
