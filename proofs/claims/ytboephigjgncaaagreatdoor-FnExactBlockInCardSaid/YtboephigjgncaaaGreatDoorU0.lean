/- Strings: how many bytes they have together. -/
import Derived.Test.YtboephigjgncaaaGreatDoorC25
import Derived.Test.YtboephigjgncaaaGreatDoorD2
set_option linter.unusedVariables false
set_option linter.unusedSimpArgs false
set_option maxRecDepth 100000
set_option maxHeartbeats 4000000
namespace Go.BM
open Go.Proofs Go.RowKit
attribute [local irreducible] ACalls AWp aops qops optK optP cK gateA condK mops qcallK PCalls loadV fldV idxV lenV slV storeH binS
def nStrS (xs : List ByteArray) : Nat := xs.length + (xs.map ByteArray.size).sum
theorem nStrS_len (xs : List ByteArray) : xs.length ≤ nStrS xs := Nat.le_add_right _ _
/-- What is left of k behind strings; -1 if it is less than nothing. -/
def szSt : List ByteArray → Int → Int
  | [], k => k
  | x :: l, k => if k - x.size < 0 then -1 else szSt l (k - x.size)
theorem szSt_eq : ∀ (xs : List ByteArray) (k : Int), 0 ≤ k → szSt xs k = szI (xs.map ByteArray.size).sum k
  | [], k, h => by simp [szSt, szI]; omega
  | x :: l, k, h => by
    unfold szSt
    rw [List.map_cons, List.sum_cons]
    split
    · unfold szI; split <;> omega
    · rw [szSt_eq l _ (by omega)]
      unfold szI
      (repeat' split) <;> omega
theorem szSt_step (xs : List ByteArray) (j : Nat) (hj : j < xs.length) (k : Int) : szSt (xs.drop j) k = if k - xs[j].size < 0 then -1 else szSt (xs.drop (j + 1)) (k - xs[j].size) := by
  rw [List.drop_eq_getElem_cons hj]
  rfl
theorem laws_szStringS (xs : List ByteArray) (k : Int) (hk : 0 ≤ k) (hk2 : k ≤ 4611686018427387904) (hn : xs.length ≤ 9223372036854775807) (hs : ∀ y ∈ xs, y.size ≤ maxLen) :
    PCalls Tryz.prog 19 [islE strE xs, .int .i64 k] (.int .i64 (szI (nStrS xs) k)) := by
  have hw : IntKind.i64.wrap (k - (xs.length : Int)) = k - xs.length := wr (by omega) (by omega)
  by_cases hlt : k - (xs.length : Int) < 0
  · rw [show szI (nStrS xs) k = -1 by unfold szI nStrS; rw [if_pos (by omega)]]
    refine PCalls.flat rfl ?_; refine ACalls.enter (n := 28) (rs := [.tmp 4]) Tryz.func19 rfl rfl rfl (by kernel_rfl) (by kernel_rfl) (by kernel_rfl) (Nat.le_of_ble_eq_true rfl) ?_
    repeat' (first | (refine KV.run _ ?_) | (refine KQ.run _ ?_) | (refine KT.run _ ?_) | (refine AWp.seqH fun KC => ?_) | (refine AWp.block ?_) | (refine AWp.region ?_) | (refine mops_step0 rfl rfl fun KC => ?_) | (refine mops_step1 rfl fun KC => ?_) | (refine mops_step2 rfl fun KC => ?_) | (refine AWp.ret ?_) | (refine AWp.skip ?_) | (refine AWp.exit ?_) | (refine aops_callH rfl fun kC => ?_) | (refine qops_callH rfl fun kC => ?_) | (refine AWp.condB ?_) | (simp only [bse, wk, tys, storeH_ptr, Nat.reduceEqDiff, ↓reduceIte, reduceCtorEq, Nat.reduceAdd, Nat.reduceLeDiff, Int.reduceBEq, Int.reduceLT, Int.reduceLE, Int.reduceEq, ne_eq, not_false_eq_true, Nat.reduceMul, *]) | (refine condK_bool (fun hb => ?_) (fun hb => ?_) <;> ((try simp only [Bool.not_eq_true', Bool.not_eq_false'] at hb) <;> (try (have hbe := of_decide_eq_true hb)) <;> (try (have hbe := eq_of_beq hb)))) | (refine aops_partB ?_) | (refine qops_partB ?_))
  have hR : Hid (szI (nStrS xs) k = szSt xs (k - xs.length)) := by
    unfold Hid
    rw [szSt_eq _ _ (by omega)]
    unfold szI nStrS
    (repeat' split) <;> omega
  refine PCalls.flat rfl ?_; refine ACalls.enter (n := 28) (rs := [.tmp 4]) Tryz.func19 rfl rfl rfl (by kernel_rfl) (by kernel_rfl) (by kernel_rfl) (Nat.le_of_ble_eq_true rfl) ?_
  repeat' (first | (refine KV.run _ ?_) | (refine KQ.run _ ?_) | (refine KT.run _ ?_) | (refine AWp.seqH fun KC => ?_) | (refine AWp.block ?_) | (refine AWp.region ?_) | (refine mops_step0 rfl rfl fun KC => ?_) | (refine mops_step1 rfl fun KC => ?_) | (refine mops_step2 rfl fun KC => ?_) | (refine AWp.ret ?_) | (refine AWp.skip ?_) | (refine AWp.exit ?_) | (refine aops_callH rfl fun kC => ?_) | (refine qops_callH rfl fun kC => ?_) | (refine AWp.condB ?_) | (simp only [bse, wk, tys, storeH_ptr, Nat.reduceEqDiff, ↓reduceIte, reduceCtorEq, Nat.reduceAdd, Nat.reduceLeDiff, Int.reduceBEq, Int.reduceLT, Int.reduceLE, Int.reduceEq, ne_eq, not_false_eq_true, Nat.reduceMul, *]) | (refine condK_bool (fun hb => ?_) (fun hb => ?_) <;> ((try simp only [Bool.not_eq_true', Bool.not_eq_false'] at hb) <;> (try (have hbe := of_decide_eq_true hb)) <;> (try (have hbe := eq_of_beq hb)))) | (refine aops_partB ?_) | (refine qops_partB ?_))
  refine AWp.loopH [12, 13, 14, 15, 18, 19, 20, 21, 22, 23, 24, 1, 25, 26, 4, 16, 17, 5] (fun m e' H' => ∃ (j : Nat) (c : Int), j ≤ xs.length ∧ m = xs.length - j ∧ e' 5 = .int .i64 j ∧ e' 1 = .int .i64 c ∧ 0 ≤ c ∧ c ≤ k ∧ H' = [] ∧ Hid (szI (nStrS xs) k = szSt (xs.drop j) c)) xs.length ⟨0, k - xs.length, by omega, by omega, rfl, by simp [put, env0, hw], by omega, by omega, rfl, hR⟩ ?_
  rintro m e' H' hA ⟨j, c, hj, rfl, h5, h1, hc0, hck, rfl, hF⟩ hJ
  have a0 := hA 0 rfl; try simp only [bse, wk, tys, storeH_ptr, Nat.reduceEqDiff, ↓reduceIte, reduceCtorEq, Nat.reduceAdd, Nat.reduceLeDiff, Int.reduceBEq, Int.reduceLT, Int.reduceLE, Int.reduceEq, ne_eq, not_false_eq_true, Nat.reduceMul] at a0; clear hA
  by_cases hl : j < xs.length
  · have hl' : (j : Int) < (xs.length : Int) := by omega
    have hwj := wr_succ (k := j) (by omega)
    have hsz : xs[j].size ≤ 9223372036854775807 := hs _ (List.getElem_mem hl)
    have hwc : IntKind.i64.wrap (c - (xs[j].size : Int)) = c - xs[j].size := wr (by omega) (by omega)
    have hstep : Hid _ := hF.out.trans (szSt_step xs j hl c)
    by_cases hneg : c - (xs[j].size : Int) < 0
    · repeat' (first | (refine KV.run _ ?_) | (refine KQ.run _ ?_) | (refine KT.run _ ?_) | (refine AWp.seqH fun KC => ?_) | (refine AWp.block ?_) | (refine AWp.region ?_) | (refine mops_step0 rfl rfl fun KC => ?_) | (refine mops_step1 rfl fun KC => ?_) | (refine mops_step2 rfl fun KC => ?_) | (refine AWp.ret ?_) | (refine AWp.skip ?_) | (refine AWp.exit ?_) | (refine aops_callH rfl fun kC => ?_) | (refine qops_callH rfl fun kC => ?_) | (refine AWp.condB ?_) | (simp only [bse, wk, tys, storeH_ptr, Nat.reduceEqDiff, ↓reduceIte, reduceCtorEq, Nat.reduceAdd, Nat.reduceLeDiff, Int.reduceBEq, Int.reduceLT, Int.reduceLE, Int.reduceEq, ne_eq, not_false_eq_true, Nat.reduceMul, *]) | (refine condK_bool (fun hb => ?_) (fun hb => ?_) <;> ((try simp only [Bool.not_eq_true', Bool.not_eq_false'] at hb) <;> (try (have hbe := of_decide_eq_true hb)) <;> (try (have hbe := eq_of_beq hb)))) | (refine aops_partB ?_) | (refine qops_partB ?_))
      rw [hstep.out, if_pos hneg]
    · repeat' (first | (refine KV.run _ ?_) | (refine KQ.run _ ?_) | (refine KT.run _ ?_) | (refine AWp.seqH fun KC => ?_) | (refine AWp.block ?_) | (refine AWp.region ?_) | (refine mops_step0 rfl rfl fun KC => ?_) | (refine mops_step1 rfl fun KC => ?_) | (refine mops_step2 rfl fun KC => ?_) | (refine AWp.ret ?_) | (refine AWp.skip ?_) | (refine AWp.exit ?_) | (refine aops_callH rfl fun kC => ?_) | (refine qops_callH rfl fun kC => ?_) | (refine AWp.condB ?_) | (simp only [bse, wk, tys, storeH_ptr, Nat.reduceEqDiff, ↓reduceIte, reduceCtorEq, Nat.reduceAdd, Nat.reduceLeDiff, Int.reduceBEq, Int.reduceLT, Int.reduceLE, Int.reduceEq, ne_eq, not_false_eq_true, Nat.reduceMul, *]) | (refine condK_bool (fun hb => ?_) (fun hb => ?_) <;> ((try simp only [Bool.not_eq_true', Bool.not_eq_false'] at hb) <;> (try (have hbe := of_decide_eq_true hb)) <;> (try (have hbe := eq_of_beq hb)))) | (refine aops_partB ?_) | (refine qops_partB ?_))
      exact hJ.out _ _ ⟨xs.length - (j + 1), by omega, j + 1, c - xs[j].size, by omega, rfl, rfl, by simp [put], by omega, by omega, rfl, by unfold Hid; rw [hstep.out, if_neg hneg]⟩ (by repeat (first | exact Agree.refl _ _ | assumption | refine Agree.put ?_ rfl _))
  · have hl' : ¬ (j : Int) < (xs.length : Int) := by omega
    have hz : Hid (szI (nStrS xs) k = c) := by unfold Hid; rw [hF.out, List.drop_eq_nil_of_le (by omega)]; rfl
    repeat' (first | (refine KV.run _ ?_) | (refine KQ.run _ ?_) | (refine KT.run _ ?_) | (refine AWp.seqH fun KC => ?_) | (refine AWp.block ?_) | (refine AWp.region ?_) | (refine mops_step0 rfl rfl fun KC => ?_) | (refine mops_step1 rfl fun KC => ?_) | (refine mops_step2 rfl fun KC => ?_) | (refine AWp.ret ?_) | (refine AWp.skip ?_) | (refine AWp.exit ?_) | (refine aops_callH rfl fun kC => ?_) | (refine qops_callH rfl fun kC => ?_) | (refine AWp.condB ?_) | (simp only [bse, wk, tys, storeH_ptr, Nat.reduceEqDiff, ↓reduceIte, reduceCtorEq, Nat.reduceAdd, Nat.reduceLeDiff, Int.reduceBEq, Int.reduceLT, Int.reduceLE, Int.reduceEq, ne_eq, not_false_eq_true, Nat.reduceMul, *]) | (refine condK_bool (fun hb => ?_) (fun hb => ?_) <;> ((try simp only [Bool.not_eq_true', Bool.not_eq_false'] at hb) <;> (try (have hbe := of_decide_eq_true hb)) <;> (try (have hbe := eq_of_beq hb)))) | (refine aops_partB ?_) | (refine qops_partB ?_))
    rw [hz.out]
end Go.BM
